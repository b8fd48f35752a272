/-
  The statement on DisputeAnyOrder, tied: its walk and its plain law, joined in the row's frame.
  Conditions: none beyond what the statement's own row lists: the package's variables read as their initialisers lay them, which the card ties to the program's text.
-/
import Derived.Test.YtgioiejbphljoaaGreatDoorRows
import Derived.Test.YtgioiejbphljoaaGreatDoorTie
import Derived.Test.YtgioiejbphljoaaGreatDoorCards
import Derived.SevenTiedAt
import Derived.Test.YtgioiejbphljoaaGreatDoorEbDisputeAnyOrder11
set_option linter.unusedVariables false
set_option linter.unusedSectionVars false
set_option maxRecDepth 100000
set_option maxHeartbeats 4000000
noncomputable section
namespace Go.Proofs.YtgioiejbphljoaaGreatDoor.disputeAnyOrderDone
open Go Go.Sx Go.Rx Go.ChangeShapes Go.WideShapes Go.ChangeAt Go.RowKit frame
theorem bI3:H7 Tryz.prog 3 (A9 .i64):=AFC Tryz.underlying3
theorem Aad:H7 Tryz.prog 23 TermsE:=AAm (fun a=>⟨a.1,a.2.1,a.2.2⟩) (fun _=>rfl) (U3 Tryz.underlying23 rfl (F6 bI3 (by kernel_rfl) (F6 bI3 (by kernel_rfl) (AC7 bI3 (by kernel_rfl)))))
theorem bI5:H7 Tryz.prog 5 (A9 .u8):=AFC Tryz.underlying5
theorem Aae:H7 Tryz.prog 45 ReportE:=AAm (fun a=>⟨a.1,a.2.1,a.2.2.1,a.2.2.2.1,a.2.2.2.2.1,a.2.2.2.2.2.1,a.2.2.2.2.2.2.1,a.2.2.2.2.2.2.2⟩) (fun _=>rfl) (U3 Tryz.underlying45 rfl (F6 bI3 (by kernel_rfl) (F6 bI3 (by kernel_rfl) (F6 bI3 (by kernel_rfl) (F6 bI3 (by kernel_rfl) (F6 bI3 (by kernel_rfl) (F6 bI5 (by kernel_rfl) (F6 bI3 (by kernel_rfl) (AC7 bI3 (by kernel_rfl))))))))))
theorem Aaf:H7 Tryz.prog 24 (D9 ReportE):=AAb Tryz.underlying24 (by kernel_rfl) Aae
theorem Aag:H7 Tryz.prog 53 DisputeE:=AAm (fun a=>⟨a.1,a.2.1,a.2.2⟩) (fun _=>rfl) (U3 Tryz.underlying53 rfl (F6 bI3 (by kernel_rfl) (F6 bI3 (by kernel_rfl) (AC7 bI3 (by kernel_rfl)))))
theorem Aah:H7 Tryz.prog 25 (D9 DisputeE):=AAb Tryz.underlying25 (by kernel_rfl) Aag
theorem Aai:H7 Tryz.prog 60 AnswerE:=AAm (fun a=>⟨a.1,a.2.1,a.2.2.1,a.2.2.2.1,a.2.2.2.2.1,a.2.2.2.2.2⟩) (fun _=>rfl) (U3 Tryz.underlying60 rfl (F6 bI3 (by kernel_rfl) (F6 bI3 (by kernel_rfl) (F6 bI3 (by kernel_rfl) (F6 bI5 (by kernel_rfl) (F6 bI3 (by kernel_rfl) (AC7 bI3 (by kernel_rfl))))))))
theorem Aaj:H7 Tryz.prog 26 (D9 AnswerE):=AAb Tryz.underlying26 (by kernel_rfl) Aai
theorem Aak:H7 Tryz.prog 28 DeskBE:=AAm (fun a=>⟨a.1,a.2.1,a.2.2.1,a.2.2.2⟩) (fun _=>rfl) (U3 Tryz.underlying28 rfl (F6 Aad (by kernel_rfl) (F6 Aaf (by kernel_rfl) (F6 Aah (by kernel_rfl) (AC7 Aaj (by kernel_rfl))))))
theorem Aal:H7 Tryz.prog 47 AskedE:=AAm (fun a=>⟨a.1,a.2.1,a.2.2.1,a.2.2.2⟩) (fun _=>rfl) (U3 Tryz.underlying47 rfl (F6 bI3 (by kernel_rfl) (F6 bI3 (by kernel_rfl) (F6 bI3 (by kernel_rfl) (AC7 bI3 (by kernel_rfl))))))
theorem Aam:H7 Tryz.prog 29 (D9 AskedE):=AAb Tryz.underlying29 (by kernel_rfl) Aal
theorem Aan:H7 Tryz.prog 82 (A9 .u32):=AFC Tryz.underlying82
theorem Aao:H7 Tryz.prog 81 (D9 (A9 .u32)):=AAb Tryz.underlying81 (by kernel_rfl) Aan
theorem lifted(os:Go.Os)(started:os.Started)(H:Type)(enc:TypeId×Value->H):
  ReturnsInHanded {} Tryz.checked os 10 .any (fun w args=>(Rows.disputeAnyOrderSpec.pre enc Tryz.prog Tryz.f10 [] false w args/\laidMetH Tryz.prog laid3 w)/\sizedMet enc Tryz.prog Tryz.f10 (OpenSpec.ofChange Rows.disputeAnyOrderSpec) false w args) (Rows.disputeAnyOrderSpec.post enc Tryz.prog Tryz.f10 false true false false):=by
 refine returnsInHanded_of_change_and (C:=Tryz.checked) (X:=fun w _=>laidMetH Tryz.prog laid3 w) (fun _ _ _ hh h=>h.of_heap hh) own started (by kernel_rfl) Tryz.func10
  (ChangeSpec.witness_shaped (enc:=enc) (C:=Tryz.checked) (os:=os) (X:=fun w _=>laidMetH Tryz.prog laid3 w) false (World.doorLaid Tryz.prog 400 os) #[.agg #[.int .i64 0,.int .i64 0,.int .i64 0,.slice none 0 0,.slice none 0 0,.slice none 0 0],.slice none 0 0,.int .i64 0,.int .i64 0,.int .i64 0,.slice none 0 0] 8 rfl (World.shaped_of_RefB (by kernel_rfl) (by kernel_rfl)) (by kernel_rfl) (by kernel_rfl) (by kernel_rfl) (AR7 os _)) ?_
 intro W base args ds gs before hval0 hW _ _ hL _
 have hval:∀(j:Nat) t v,Tryz.f10.params[j]?=some t->args[j]?=some v->Value.okWide Tryz.prog W .any base t v:=hval0
 have hW':=hW
 obtain⟨p,q,hA0,hV,rfl,hfz,hnd⟩:=hW
 have hA:DataW.TrodAll enc Tryz.prog W 0 (fun _=>true) true Tryz.f10.params.toList args.toList ds p:=hA0
 rw[Tryz.params10]at hA hval
 obtain⟨v0,vs0,d0,ds0,p0,q0,hargs,rfl,rfl,h0,r0⟩:=trodAll_cons hA
 obtain⟨v1,vs1,d1,ds1,p1,q1,rfl,rfl,rfl,h1,r1⟩:=trodAll_cons r0
 obtain⟨v2,vs2,d2,ds2,p2,q2,rfl,rfl,rfl,h2,r2⟩:=trodAll_cons r1
 obtain⟨v3,vs3,d3,ds3,p3,q3,rfl,rfl,rfl,h3,r3⟩:=trodAll_cons r2
 obtain⟨v4,vs4,d4,ds4,p4,q4,rfl,rfl,rfl,h4,r4⟩:=trodAll_cons r3
 obtain⟨v5,vs5,d5,ds5,p5,q5,rfl,rfl,rfl,h5,r5⟩:=trodAll_cons r4
 obtain⟨rfl,rfl,rfl⟩:=trodAll_nil r5
 obtain rfl:args=#[v0,v1,v2,v3,v4,v5]:=by cases args;simp_all
 obtain⟨rfl,rfl⟩:=trodVars_none hV
 have k0:=h0
 have lt0:∀x∈p0,x.block<W.heap.size:=by obtain⟨m,hm⟩:=k0;exact DataW.trod_lt m _ _ _ hm
 have k1:=h1
 have lt1:∀x∈p1,x.block<W.heap.size:=by obtain⟨m,hm⟩:=k1;exact DataW.trod_lt m _ _ _ hm
 have k2:=h2
 have lt2:∀x∈p2,x.block<W.heap.size:=by obtain⟨m,hm⟩:=k2;exact DataW.trod_lt m _ _ _ hm
 have k3:=h3
 have lt3:∀x∈p3,x.block<W.heap.size:=by obtain⟨m,hm⟩:=k3;exact DataW.trod_lt m _ _ _ hm
 have k4:=h4
 have lt4:∀x∈p4,x.block<W.heap.size:=by obtain⟨m,hm⟩:=k4;exact DataW.trod_lt m _ _ _ hm
 have k5:=h5
 have lt5:∀x∈p5,x.block<W.heap.size:=by obtain⟨m,hm⟩:=k5;exact DataW.trod_lt m _ _ _ hm
 obtain⟨x0,hx0⟩:=ABy Aak h0
 have hx0:=AUQ hx0
 obtain⟨cs0,rfl,_⟩:=okWide_struct Tryz.underlying28 (hval 0 28 v0 rfl rfl)
 have e0:OkD (P:=Tryz.prog) [] W (.st 4) x0 (.agg cs0):=⟨cs0.toList,hx0,.inl ⟨rfl,rfl⟩⟩
 obtain⟨x1,hx1⟩:=ABy Aam h1
 obtain⟨a1,n1,c1,rfl⟩:=okWide_slice Tryz.underlying29 (hval 1 29 v1 rfl rfl)
 have e1:OkD (P:=Tryz.prog) [] W (.sl (.st 5)) x1 (.slice a1 n1 c1):=⟨_,hx1,.inr ⟨rfl,rfl⟩⟩
 obtain⟨x2,hx2⟩:=ABy bI3 h2
 obtain⟨n2,rfl⟩:=okWide_int Tryz.underlying3 (hval 2 3 v2 rfl rfl)
 have e2:OkD (P:=Tryz.prog) [] W (.int .i64) x2 (.int .i64 n2):=⟨_,hx2,.inr ⟨rfl,rfl⟩⟩
 have b2:InK .i64 x2:=hx2.2
 obtain⟨x3,hx3⟩:=ABy bI3 h3
 obtain⟨n3,rfl⟩:=okWide_int Tryz.underlying3 (hval 3 3 v3 rfl rfl)
 have e3:OkD (P:=Tryz.prog) [] W (.int .i64) x3 (.int .i64 n3):=⟨_,hx3,.inr ⟨rfl,rfl⟩⟩
 have b3:InK .i64 x3:=hx3.2
 obtain⟨x4,hx4⟩:=ABy bI3 h4
 obtain⟨n4,rfl⟩:=okWide_int Tryz.underlying3 (hval 4 3 v4 rfl rfl)
 have e4:OkD (P:=Tryz.prog) [] W (.int .i64) x4 (.int .i64 n4):=⟨_,hx4,.inr ⟨rfl,rfl⟩⟩
 have b4:InK .i64 x4:=hx4.2
 obtain⟨x5,hx5⟩:=ABy Aao h5
 obtain⟨a5,n5,c5,rfl⟩:=okWide_slice Tryz.underlying81 (hval 5 81 v5 rfl rfl)
 have e5:OkD (P:=Tryz.prog) [] W (.sl (.int .u32)) x5 (.slice a5 n5 c5):=⟨_,hx5,.inr ⟨rfl,rfl⟩⟩
 clear hA0 hval0
 refine(ok10.2 [] W (x0,x1,x2,x3,x4,x5,()) _ true (fun b hb=>by cases hb) (AUK hL) ⟨_,_,rfl,e0,⟨_,_,rfl,e1,⟨_,_,rfl,e2,⟨_,_,rfl,e3,⟨_,_,rfl,e4,⟨_,_,rfl,e5,rfl⟩⟩⟩⟩⟩⟩ (S.AHP S.AUd (inD hx0) (AWK hx1) (AaE hx5))).mono fun e W' ⟨vs,he,hk,ext⟩=>?_
 obtain⟨v,rfl,hv⟩:=hk
 obtain⟨cs,hb,h9|⟨_,rfl⟩⟩:=hv
 . cases h9.1
 have hb:[v]=[Value.bool true]:=hb
 obtain rfl:v=Value.bool true:=by simpa using hb
 subst he
 have bel:=ext.below
 exact⟨_,rfl,_,_,_,[],_,[],hW',trodAll_mk1 (shut_bool Tryz.underlying4 _),(trodAll_cons_mk (Below.trod ADC (by kernel_rfl) (AbH (by kernel_rfl)) k0 bel lt0) (trodAll_cons_mk (Below.trod ADC (by kernel_rfl) (AbH (by kernel_rfl)) k1 bel lt1) (trodAll_cons_mk (Below.trod ADC (by kernel_rfl) (AbH (by kernel_rfl)) k2 bel lt2) (trodAll_cons_mk (Below.trod ADC (by kernel_rfl) (AbH (by kernel_rfl)) k3 bel lt3) (trodAll_cons_mk (Below.trod ADC (by kernel_rfl) (AbH (by kernel_rfl)) k4 bel lt4) (trodAll_cons_mk (Below.trod ADC (by kernel_rfl) (AbH (by kernel_rfl)) k5 bel lt5) trodAll_mk0)))))),rfl,bel.frame _,fun h=>by cases h⟩
theorem row:Rows.disputeAnyOrderRow.holds Tryz.pinned (OpenSpec.ofChange Rows.disputeAnyOrderSpec):=
 OpenClaim.holds_of_wide 10 Tryz.f10 rfl rfl rfl rfl rfl rfl rfl ⟨rfl,rfl,rfl,rfl,rfl⟩ rfl rfl rfl rfl rfl (by kernel_rfl) Tryz.func10 (by kernel_rfl)
  (AbH (by kernel_rfl)) (by unfold Func.isWrapper;first|(rw[AbO (by decide +kernel)];kernel_rfl)|(rw[if_neg (by decide +kernel)];exact⟨rfl,rfl⟩))
  (fun os started H enc _=>lifted os started H enc)
theorem proved:Rows.DisputeAnyOrderCardSaid:=
 Claim7.holds_tied_plain_at .later [] [.data,.funcs,.mapped] true (true, "b09e1055613b3bc78040c45907358a96209802f4aed965dab76f1e08e4888df2") false
  row (fun _ h=>by cases h) (by kernel_rfl) (fun _ h=>by cases h) disputeAnyOrder_row_tie rfl ⟨rfl,rfl⟩ (by kernel_rfl) rfl
  (fun f fn hf hfn=>by
   obtain rfl:f=10:=AbA ((show Tryz.prog.funcNamed "goodname/goodnamelaw05.DisputeAnyOrder" = some 10 by kernel_rfl).symm.trans hf) |>.symm;obtain rfl:fn=Tryz.f10:=(AbA (Tryz.func10.symm.trans hfn)).symm;exact⟨by kernel_rfl,fun j t ht=>by
    rw[Tryz.params10]at ht;have hm:=Array.mem_of_getElem? ht;have hall:(#[28,29,3,3,3,81].all fun u=>!Tryz.prog.wantsStandIn u)=true:=by kernel_rfl
    have:=Array.all_eq_true_iff_forall_mem.1 hall t hm;exact(show Tryz.prog.wantsStandIn t=false by simpa using this)⟩)
  (by kernel_rfl)
end Go.Proofs.YtgioiejbphljoaaGreatDoor.disputeAnyOrderDone
end
