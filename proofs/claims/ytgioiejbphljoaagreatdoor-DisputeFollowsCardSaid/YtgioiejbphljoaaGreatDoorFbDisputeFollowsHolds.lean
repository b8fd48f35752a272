/-
  The statement on DisputeFollows, tied: its walk and its plain law, joined in the row's frame.
  Conditions: none beyond what the statement's own row lists: the package's variables read as their initialisers lay them, which the card ties to the program's text.
-/
import Derived.Test.YtgioiejbphljoaaGreatDoorRows
import Derived.Test.YtgioiejbphljoaaGreatDoorTie
import Derived.Test.YtgioiejbphljoaaGreatDoorCards
import Derived.SevenTiedAt
import Derived.Test.YtgioiejbphljoaaGreatDoorFbDisputeFollows11
set_option linter.unusedVariables false
set_option linter.unusedSectionVars false
set_option maxRecDepth 100000
set_option maxHeartbeats 4000000
noncomputable section
namespace Go.Proofs.YtgioiejbphljoaaGreatDoor.disputeFollowsDone
open Go Go.Sx Go.Rx Go.ChangeShapes Go.WideShapes Go.ChangeAt Go.RowKit frame
theorem bI3:I9 Tryz.prog 3 (B2 .i64):=AHN Tryz.underlying3
theorem AXy:I9 Tryz.prog 23 TermsE:=AAS (fun a=>⟨a.1,a.2.1,a.2.2⟩) (fun _=>rfl) (R8 Tryz.underlying23 rfl (F6 bI3 (by kernel_rfl) (F6 bI3 (by kernel_rfl) (ACd bI3 (by kernel_rfl)))))
theorem bI5:I9 Tryz.prog 5 (B2 .u8):=AHN Tryz.underlying5
theorem AXz:I9 Tryz.prog 45 ReportE:=AAS (fun a=>⟨a.1,a.2.1,a.2.2.1,a.2.2.2.1,a.2.2.2.2.1,a.2.2.2.2.2.1,a.2.2.2.2.2.2.1,a.2.2.2.2.2.2.2⟩) (fun _=>rfl) (R8 Tryz.underlying45 rfl (F6 bI3 (by kernel_rfl) (F6 bI3 (by kernel_rfl) (F6 bI3 (by kernel_rfl) (F6 bI3 (by kernel_rfl) (F6 bI3 (by kernel_rfl) (F6 bI5 (by kernel_rfl) (F6 bI3 (by kernel_rfl) (ACd bI3 (by kernel_rfl))))))))))
theorem AX0:I9 Tryz.prog 24 (E7 ReportE):=ABJ Tryz.underlying24 (by kernel_rfl) AXz
theorem AX1:I9 Tryz.prog 53 DisputeE:=AAS (fun a=>⟨a.1,a.2.1,a.2.2⟩) (fun _=>rfl) (R8 Tryz.underlying53 rfl (F6 bI3 (by kernel_rfl) (F6 bI3 (by kernel_rfl) (ACd bI3 (by kernel_rfl)))))
theorem AX2:I9 Tryz.prog 25 (E7 DisputeE):=ABJ Tryz.underlying25 (by kernel_rfl) AX1
theorem AX3:I9 Tryz.prog 60 AnswerE:=AAS (fun a=>⟨a.1,a.2.1,a.2.2.1,a.2.2.2.1,a.2.2.2.2.1,a.2.2.2.2.2⟩) (fun _=>rfl) (R8 Tryz.underlying60 rfl (F6 bI3 (by kernel_rfl) (F6 bI3 (by kernel_rfl) (F6 bI3 (by kernel_rfl) (F6 bI5 (by kernel_rfl) (F6 bI3 (by kernel_rfl) (ACd bI3 (by kernel_rfl))))))))
theorem AX4:I9 Tryz.prog 26 (E7 AnswerE):=ABJ Tryz.underlying26 (by kernel_rfl) AX3
theorem AX5:I9 Tryz.prog 28 DeskBE:=AAS (fun a=>⟨a.1,a.2.1,a.2.2.1,a.2.2.2⟩) (fun _=>rfl) (R8 Tryz.underlying28 rfl (F6 AXy (by kernel_rfl) (F6 AX0 (by kernel_rfl) (F6 AX2 (by kernel_rfl) (ACd AX4 (by kernel_rfl))))))
theorem AX6:I9 Tryz.prog 47 AskedE:=AAS (fun a=>⟨a.1,a.2.1,a.2.2.1,a.2.2.2⟩) (fun _=>rfl) (R8 Tryz.underlying47 rfl (F6 bI3 (by kernel_rfl) (F6 bI3 (by kernel_rfl) (F6 bI3 (by kernel_rfl) (ACd bI3 (by kernel_rfl))))))
theorem AX7:I9 Tryz.prog 29 (E7 AskedE):=ABJ Tryz.underlying29 (by kernel_rfl) AX6
theorem lifted(os:Go.Os)(started:os.Started)(H:Type)(enc:TypeId×Value->H):
  ReturnsInHanded {} Tryz.checked os 3 .any (fun w args=>(Rows.disputeFollowsSpec.pre enc Tryz.prog Tryz.f3 [] false w args/\laidMetH Tryz.prog laid3 w)/\sizedMet enc Tryz.prog Tryz.f3 (OpenSpec.ofChange Rows.disputeFollowsSpec) false w args) (Rows.disputeFollowsSpec.post enc Tryz.prog Tryz.f3 false true false false):=by
 refine returnsInHanded_of_change_and (C:=Tryz.checked) (X:=fun w _=>laidMetH Tryz.prog laid3 w) (fun _ _ _ hh h=>h.of_heap hh) own started (by kernel_rfl) Tryz.func3
  (ChangeSpec.witness_shaped (enc:=enc) (C:=Tryz.checked) (os:=os) (X:=fun w _=>laidMetH Tryz.prog laid3 w) false (World.doorLaid Tryz.prog 400 os) #[.agg #[.int .i64 0,.int .i64 0,.int .i64 0,.slice none 0 0,.slice none 0 0,.slice none 0 0],.slice none 0 0,.int .i64 0] 8 rfl (World.shaped_of_RefB (by kernel_rfl) (by kernel_rfl)) (by kernel_rfl) (by kernel_rfl) (by kernel_rfl) (AQL os _)) ?_
 intro W base args ds gs before hval0 hW _ _ hL _
 have hval:∀(j:Nat) t v,Tryz.f3.params[j]?=some t->args[j]?=some v->Value.okWide Tryz.prog W .any base t v:=hval0
 have hW':=hW
 obtain⟨p,q,hA0,hV,rfl,hfz,hnd⟩:=hW
 have hA:DataW.TrodAll enc Tryz.prog W 0 (fun _=>true) true Tryz.f3.params.toList args.toList ds p:=hA0
 rw[Tryz.params3]at hA hval
 obtain⟨v0,vs0,d0,ds0,p0,q0,hargs,rfl,rfl,h0,r0⟩:=trodAll_cons hA
 obtain⟨v1,vs1,d1,ds1,p1,q1,rfl,rfl,rfl,h1,r1⟩:=trodAll_cons r0
 obtain⟨v2,vs2,d2,ds2,p2,q2,rfl,rfl,rfl,h2,r2⟩:=trodAll_cons r1
 obtain⟨rfl,rfl,rfl⟩:=trodAll_nil r2
 obtain rfl:args=#[v0,v1,v2]:=by cases args;simp_all
 obtain⟨rfl,rfl⟩:=trodVars_none hV
 have k0:=h0
 have lt0:∀x∈p0,x.block<W.heap.size:=by obtain⟨m,hm⟩:=k0;exact DataW.trod_lt m _ _ _ hm
 have k1:=h1
 have lt1:∀x∈p1,x.block<W.heap.size:=by obtain⟨m,hm⟩:=k1;exact DataW.trod_lt m _ _ _ hm
 have k2:=h2
 have lt2:∀x∈p2,x.block<W.heap.size:=by obtain⟨m,hm⟩:=k2;exact DataW.trod_lt m _ _ _ hm
 obtain⟨x0,hx0⟩:=AGV AX5 h0
 have hx0:=ASI hx0
 obtain⟨cs0,rfl,_⟩:=okWide_struct Tryz.underlying28 (hval 0 28 v0 rfl rfl)
 have e0:OkD (P:=Tryz.prog) [] W (.st 4) x0 (.agg cs0):=⟨cs0.toList,hx0,.inl ⟨rfl,rfl⟩⟩
 obtain⟨x1,hx1⟩:=AGV AX7 h1
 obtain⟨a1,n1,c1,rfl⟩:=okWide_slice Tryz.underlying29 (hval 1 29 v1 rfl rfl)
 have e1:OkD (P:=Tryz.prog) [] W (.sl (.st 5)) x1 (.slice a1 n1 c1):=⟨_,hx1,.inr ⟨rfl,rfl⟩⟩
 obtain⟨x2,hx2⟩:=AGV bI3 h2
 obtain⟨n2,rfl⟩:=okWide_int Tryz.underlying3 (hval 2 3 v2 rfl rfl)
 have e2:OkD (P:=Tryz.prog) [] W (.int .i64) x2 (.int .i64 n2):=⟨_,hx2,.inr ⟨rfl,rfl⟩⟩
 have b2:InK .i64 x2:=hx2.2
 clear hA0 hval0
 refine(ok3.2 [] W (x0,x1,x2,()) _ true (fun b hb=>by cases hb) (ASH hL) ⟨_,_,rfl,e0,⟨_,_,rfl,e1,⟨_,_,rfl,e2,rfl⟩⟩⟩ (S.AHC (inD hx0))).mono fun e W' ⟨vs,he,hk,ext⟩=>?_
 obtain⟨v,rfl,hv⟩:=hk
 obtain⟨cs,hb,h9|⟨_,rfl⟩⟩:=hv
 . cases h9.1
 have hb:[v]=[Value.bool true]:=hb
 obtain rfl:v=Value.bool true:=by simpa using hb
 subst he
 have bel:=ext.below
 exact⟨_,rfl,_,_,_,[],_,[],hW',trodAll_mk1 (shut_bool Tryz.underlying4 _),(trodAll_cons_mk (Below.trod AIb (by kernel_rfl) (AYZ (by kernel_rfl)) k0 bel lt0) (trodAll_cons_mk (Below.trod AIb (by kernel_rfl) (AYZ (by kernel_rfl)) k1 bel lt1) (trodAll_cons_mk (Below.trod AIb (by kernel_rfl) (AYZ (by kernel_rfl)) k2 bel lt2) trodAll_mk0))),rfl,bel.frame _,fun h=>by cases h⟩
theorem row:Rows.disputeFollowsRow.holds Tryz.pinned (OpenSpec.ofChange Rows.disputeFollowsSpec):=
 OpenClaim.holds_of_wide 3 Tryz.f3 rfl rfl rfl rfl rfl rfl rfl ⟨rfl,rfl,rfl,rfl,rfl⟩ rfl rfl rfl rfl rfl (by kernel_rfl) Tryz.func3 (by kernel_rfl)
  (AYZ (by kernel_rfl)) (by unfold Func.isWrapper;first|(rw[AYf (by decide +kernel)];kernel_rfl)|(rw[if_neg (by decide +kernel)];exact⟨rfl,rfl⟩))
  (fun os started H enc _=>lifted os started H enc)
theorem proved:Rows.DisputeFollowsCardSaid:=
 Claim7.holds_tied_plain_at .later [] [.data,.funcs,.mapped] true (true, "b09e1055613b3bc78040c45907358a96209802f4aed965dab76f1e08e4888df2") false
  row (fun _ h=>by cases h) (by kernel_rfl) (fun _ h=>by cases h) disputeFollows_row_tie rfl ⟨rfl,rfl⟩ (by kernel_rfl) rfl
  (fun f fn hf hfn=>by
   obtain rfl:f=3:=AYS ((show Tryz.prog.funcNamed "goodname/goodnamelaw05.DisputeFollows" = some 3 by kernel_rfl).symm.trans hf) |>.symm;obtain rfl:fn=Tryz.f3:=(AYS (Tryz.func3.symm.trans hfn)).symm;exact⟨by kernel_rfl,fun j t ht=>by
    rw[Tryz.params3]at ht;have hm:=Array.mem_of_getElem? ht;have hall:(#[28,29,3].all fun u=>!Tryz.prog.wantsStandIn u)=true:=by kernel_rfl
    have:=Array.all_eq_true_iff_forall_mem.1 hall t hm;exact(show Tryz.prog.wantsStandIn t=false by simpa using this)⟩)
  (by kernel_rfl)
end Go.Proofs.YtgioiejbphljoaaGreatDoor.disputeFollowsDone
end
