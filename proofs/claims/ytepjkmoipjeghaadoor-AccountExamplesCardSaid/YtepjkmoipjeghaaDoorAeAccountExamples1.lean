/-
  Part AccountExamples 1 of the texts that the statement's proof stands on: what memory holds, how code is walked, what the functions reckon. In the order in which they build.
-/
import Derived.Test.YtepjkmoipjeghaaDoorProg
import Derived.Test.YtepjkmoipjeghaaDoorAe9
set_option linter.unusedVariables false
set_option linter.unusedSectionVars false
set_option maxRecDepth 20000
set_option maxHeartbeats 4000000
namespace Go.Proofs.YtepjkmoipjeghaaDoor
open Go Go.Sx Go.RowKit
noncomputable def P.law03_AccountExamples  : Option Bool :=
  Option.bind (Option.bind (P.law03_alive ) fun z1 => some (!z1)) fun x6 => cond x6 (some false) (Option.bind (P.law03_reports ) fun z8 => Option.bind (P.account_State z8 5 30 45) fun (z17, z18) => Option.bind (P.law03_reports ) fun z66 => Option.bind (P.account_Fate z66 2 45) fun (z73, z74, z75) => Option.bind (P.law03_reports ) fun z83 => Option.bind (P.account_Fate z83 6 45) fun (z90, z91, z92) => Option.bind (cond (!decide (z18 = 0)) (some true) (Option.bind (P.law03_told 2 0 8 ([1] : List Int)) fun z113 => Option.bind (P.law03_told 2 520 15 ([2, 3] : List Int)) fun z133 => Option.bind (P.ref03_SameState (State.mk (Told.mk z17.opened.known z17.opened.cents z17.opened.since z17.opened.by_) (Told.mk z17.limit.known z17.limit.cents z17.limit.since z17.limit.by_) (Told.mk z17.owed.known z17.owed.cents z17.owed.since z17.owed.by_) (Told.mk z17.late.known z17.late.cents z17.late.since z17.late.by_) (Told.mk z17.default.known z17.default.cents z17.default.since z17.default.by_) (Told.mk z17.closed.known z17.closed.cents z17.closed.since z17.closed.by_) (Span.mk z17.paid.lo z17.paid.hi) z17.is_) (State.mk (Told.mk z113.known z113.cents z113.since z113.by_) (Told.mk 0 0 0 []) (Told.mk z133.known z133.cents z133.since z133.by_) (Told.mk 0 0 0 []) (Told.mk 0 0 0 []) (Told.mk 0 0 0 []) (Span.mk 0 0) 1)) fun z204 => cond (!z204) (some true) (cond (!decide (z75 = 0)) (some true) (cond (!decide (z73 = 1)) (some true) (cond (!decide (z74 = 5)) (some true) (cond (!decide (z92 = 0)) (some true) (cond (!decide (z90 = 4)) (some true) (some (!decide (z91 = (-1))))))))))) fun x237 => cond x237 (some false) (Option.bind (P.law03_reports ) fun z239 => Option.bind (ixo z239 0) fun y246 => Option.bind (seto z239 0 (Report.mk y246.id y246.source y246.account y246.made y246.about y246.kind 1 y246.of_)) fun l260 => Option.bind (P.law03_reports ) fun z264 => Option.bind (P.law03_rep 1 70 10 1 9 0 0) fun z271 => Option.bind (appo 64 z264 ([z271] : List Report)) fun l290 => Option.bind (P.law03_reports ) fun z295 => Option.bind (P.account_Fate z295 5 39) fun (z302, z303, z304) => Option.bind (P.law03_reports ) fun z312 => Option.bind (P.account_Standing z312 (-1)) fun (z321, z322) => Option.bind (P.law03_reports ) fun z330 => Option.bind (P.account_State z330 5 100001 60) fun (z339, z340) => Option.bind (mko 64 (Report.mk 0 0 0 0 0 0 0 0) 61) fun l379 => Option.bind (P.account_Clashes l379 5 60) fun (z386, z387) => Option.bind (cond (decide (z304 = 6)) (cond (decide (z322 = 2)) (cond (decide (z340 = 2)) (cond (decide (z387 = 4)) (Option.bind (P.account_Check l260) fun z399 => cond (decide (z399 = 30)) (Option.bind (P.account_Check l290) fun z406 => some (decide (z406 = 31))) (some false)) (some false)) (some false)) (some false)) (some false)) fun x412 => some x412))
theorem C_law03_AccountExamples {M : List Nat} {w : World} (hM : MLt M w) (hG : RdC M w 0 0 (glob0.map (Value.int .i64)))  {r0 : Bool} (h : P.law03_AccountExamples  = some r0) :
  Calls Tryd.prog 5 (List.toArray []) w fun e w' => e = .returned (Value.bool r0) ∧ Ext w w' := by
 have hI := Hp.start (Mu := []) hM
 refine calls_cw Tryd.func5 rfl Tryd.ntmps5 rfl ?_
 refine cw_seq (cw_regF (s_as rfl rfl (Reg.nil (cw_seq ?_))))
 obtain ⟨j1, h2, h⟩ := bnd h
 refine cw_sub (L := []) (Sub.nil _) (cw_seqD 0 (ι := Bool) (fun x3 => [(16, Value.bool x3)]) (fun x3 => fun w4 => Hp w [] M [] w4 ∧ Adv (mm [] M) (mm [] M) w w4 ∧ x3 = j1) ?_ ?_)
 ·refine cw_regF (s_mv rfl rfl (Reg.take rfl rfl ?_))
  obtain ⟨z7, hz8, h2⟩ := bnd h2
  refine s_call rfl Tryd.call26 rfl ((C_law03_alive hI.mlt hG hz8).mono ?_)
  rintro _ w9 ⟨rfl, e10⟩
  refine ⟨_, rfl, ?_⟩
  have hI11 := hI.ext e10
  refine Reg.take rfl rfl (s_not rfl rfl (s_pkF rfl rfl rfl (Reg.nil ?_)))
  obtain rfl := Option.some.inj h2
  refine ⟨rfl, !z7, ⟨hI11, hI11.adv, rfl⟩, sb1 rfl⟩
 rintro x3 w4 ⟨hI5, hA6, rfl⟩
 refine cw_cond rfl (fun hc12 => ?_) (fun hc12 => ?_)
 ·replace h := cdT hc12 h
  refine cw_seq (cw_regF (s_as rfl rfl (Reg.nil (cw_ret ?_))))
  obtain rfl := Option.some.inj h
  refine fin1 Tryd.results5 rfl ?_
  exact ⟨rfl, hI5.kp⟩
 replace h := cdF hc12 h
 refine cw_skip (cw_seq (cw_regF ?_))
 obtain ⟨z13, hz14, h⟩ := bnd h
 refine s_call rfl Tryd.call27 rfl ((C_law03_reports hI5.mlt hz14).mono ?_)
 rintro _ w15 ⟨v17, rfl, hf18, e16⟩
 refine ⟨_, rfl, ?_⟩
 have hI19 := hI5.addOwn e16 hf18
 have hf20 := hI19.freeze 0 rfl
 have hI21 := hI19.erase 0
 obtain ⟨⟨z22, z23⟩, hz24, h⟩ := bnd h
 refine s_call rfl Tryd.call20 rfl ?_
 refine (C_account_State hI21.mlt (hG.adv hI21.adv) hf20 (by decide) (by decide) (by decide) hz24).mono ?_
 rintro _ w25 ⟨v30, v35, v40, v45, v50, v55, rfl, r27, r28, r29, hf31, r32, r33, r34, hf36, r37, r38, r39, hf41, r42, r43, r44, hf46, r47, r48, r49, hf51, r52, r53, r54, hf56, r57, r58, r59, r60, e26⟩
 refine ⟨_, rfl, ?_⟩
 have hI61 := hI21.ext e26
 refine s_mv rfl rfl (s_xt rfl rfl rfl (s_xt rfl rfl rfl (y_al hI61 Tryd.zeroValue42 rfl rfl ?_)))
 intro b62 w63 hI64 x65
 refine y_st 0 hI64 rfl rfl rfl rfl Tryd.sizeOf42 rfl rfl (one1 rfl (one1 rfl (one1 rfl (one1 (RdS.oneC hf31) (one1 rfl (one1 rfl (one1 rfl (one1 (RdS.oneC hf36) (one1 rfl (one1 rfl (one1 rfl (one1 (RdS.oneC hf41) (one1 rfl (one1 rfl (one1 rfl (one1 (RdS.oneC hf46) (one1 rfl (one1 rfl (one1 rfl (one1 (RdS.oneC hf51) (one1 rfl (one1 rfl (one1 rfl (one1 (RdS.oneC hf56) (on3 rfl rfl rfl))))))))))))))))))))))))) ?_
 intro w66 hI67 x68
 have hC70 := hI67.freezeRow 0 rfl
 have hI69 := hI67.erase 0
 refine s_as rfl rfl (Reg.nil (cw_seq (cw_regF ?_)))
 obtain ⟨z71, hz72, h⟩ := bnd h
 refine s_call rfl Tryd.call27 rfl ((C_law03_reports hI69.mlt hz72).mono ?_)
 rintro _ w73 ⟨v75, rfl, hf76, e74⟩
 refine ⟨_, rfl, ?_⟩
 have hI77 := hI69.addOwn e74 hf76
 obtain ⟨⟨z78, z79, z80⟩, hz81, h⟩ := bnd h
 refine s_call rfl Tryd.call15 rfl ?_
 refine (C_account_Fate (hI77.sel [] rfl).mlt ((hG.adv hI77.adv).adv (Hp.selA (σ := [ownR [] ReportE 61 v75 z71]) [])) (hI77.lendRd [] 0 rfl rfl) (by decide) (by decide) hz81).mono ?_
 rintro _ w82 ⟨rfl, r84, r85, r86, e83⟩
 refine ⟨_, rfl, ?_⟩
 have hI87 := hI77.ext e83
 refine s_mv rfl rfl ?_
 iterate 3 refine s_xt rfl rfl rfl ?_
 iterate 3 refine s_as rfl rfl ?_
 refine Reg.nil (cw_seq (cw_regF ?_))
 obtain ⟨z88, hz89, h⟩ := bnd h
 refine s_call rfl Tryd.call27 rfl ((C_law03_reports hI87.mlt hz89).mono ?_)
 rintro _ w90 ⟨v92, rfl, hf93, e91⟩
 refine ⟨_, rfl, ?_⟩
 have hI94 := hI87.addOwn e91 hf93
 obtain ⟨⟨z95, z96, z97⟩, hz98, h⟩ := bnd h
 refine s_call rfl Tryd.call15 rfl ?_
 refine (C_account_Fate (hI94.sel [1] rfl).mlt ((hG.adv hI94.adv).adv (Hp.selA (σ := [ownR [] ReportE 61 v92 z88, ownR [] ReportE 61 v75 z71]) [1])) (hI94.lendRd [1] 0 rfl rfl) (by decide) (by decide) hz98).mono ?_
 rintro _ w99 ⟨rfl, r101, r102, r103, e100⟩
 refine ⟨_, rfl, ?_⟩
 have hI104 := hI94.ext e100
 refine s_mv rfl rfl ?_
 iterate 3 refine s_xt rfl rfl rfl ?_
 iterate 3 refine s_as rfl rfl ?_
 refine Reg.nil (cw_seq ?_)
 obtain ⟨j105, h106, h⟩ := bnd h
 refine cw_keep [1, 2, 3, 4, 5, 6, 7, 8] rfl (cw_seqD 8 (ι := Bool) (fun x107 => [(69, Value.bool x107)]) (fun x107 => fun w108 => Hp w [] M [ownR [] ReportE 61 v92 z88, ownR [] ReportE 61 v75 z71] w108 ∧ Adv (mm [ownR [] ReportE 61 v92 z88, ownR [] ReportE 61 v75 z71] M) (mm [ownR [] ReportE 61 v92 z88, ownR [] ReportE 61 v75 z71] M) w99 w108 ∧ x107 = j105) ?_ ?_)
 ·refine cw_regD [0, 1, 2, 3, 4, 5, 6, 7, 8, 9, 10, 11, 12, 13, 14, 15, 16, 17, 18, 19, 20, 21, 22, 23, 24, 25, 26, 27, 28, 29, 30, 31, 32, 33, 34, 35] [] fol (by kernel_rfl) rfl rfl ?_
  refine s_mv rfl rfl (s_neq rfl rfl rfl (s_mv rfl rfl (Reg.gsplit (t := 36) rfl (fun hg111 => ?_) (fun hg111 => ?_))))
  ·replace h106 := cdT hg111 h106
   iterate 8 refine Reg.pass rfl rfl rfl rfl ?_
   refine s_pkT rfl rfl rfl (s_mv rfl rfl (Reg.pass rfl rfl rfl rfl (Reg.pass rfl rfl rfl rfl (s_pkT rfl rfl rfl (s_mv rfl rfl (Reg.pass rfl rfl rfl rfl (Reg.pass rfl rfl rfl rfl (s_pkT rfl rfl rfl (s_mv rfl rfl (Reg.pass rfl rfl rfl rfl (Reg.pass rfl rfl rfl rfl ?_)))))))))))
   refine s_pkT rfl rfl rfl (s_mv rfl rfl (Reg.pass rfl rfl rfl rfl (Reg.pass rfl rfl rfl rfl (s_pkT rfl rfl rfl (s_mv rfl rfl (Reg.pass rfl rfl rfl rfl (Reg.pass rfl rfl rfl rfl (s_pkT rfl rfl rfl (s_mv rfl rfl (Reg.pass rfl rfl rfl rfl (Reg.pass rfl rfl rfl rfl ?_)))))))))))
   refine s_pkT rfl rfl rfl (Reg.nilF [] RSub.nil (nodupB_spec rfl) ?_)
   intro w112 e113
   refine Reg.nil ?_
   have hI114 := hI104.ext e113
   obtain rfl := Option.some.inj h106
   refine ⟨rfl, true, ⟨hI114, (Adv.of_ext e113), rfl⟩, sb1 rfl⟩
  replace h106 := cdF hg111 h106
  refine Reg.take rfl rfl (s_lda rfl (hC70.adv ((hI69.addOwnA e74 hf76).trans ((Adv.of_ext e83).trans ((hI87.addOwnA e91 hf93).trans (Adv.of_ext e100))))).cells Tryd.isAgg42 rfl Tryd.sizeOf42 rfl (Reg.take rfl rfl (Reg.rel (.p fun v w' => RdS (intE .i64) (mm [ownR [] ReportE 61 v92 z88, ownR [] ReportE 61 v75 z71] M) w' v ([1] : List Int)) [] rfl rfl rfl RSub.nil rfl (nodupB_spec rfl) ?_ (fun v w1 w2 e h => h.adv (Adv.of_ext e)) ?_)))
  ·intro w115 e116; simp only [relOut]; refine s_bs (E := (intE .i64)) (M := mm [ownR [] ReportE 61 v92 z88, ownR [] ReportE 61 v75 z71] M) (Bb := 0) (xs := ([1] : List Int)) sl36 rfl rfl (Cls.cons rfl Cls.nil) (Chs.cons ⟨rfl, (by decide)⟩ Chs.nil) (hI104.mlt.ext e116) (Nat.zero_le _) rfl rfl ?_; intro a117 w118 x119 _ h120 _; exact Reg.nil ⟨rfl, x119, _, rfl, h120, trivial⟩
  refine Reg.take rfl rfl ?_
  obtain ⟨z124, hz124, h106⟩ := bnd h106
  refine Reg.rel (.p fun v w' => ∃ cs : List Value, v = Value.agg (List.toArray cs) ∧ ToldE.R (mm [ownR [] ReportE 61 v92 z88, ownR [] ReportE 61 v75 z71] M) w' cs z124) [(38, _)] rfl rfl rfl (RSub.cons rfl rfl RSub.nil) rfl (nodupB_spec rfl) ?_ (fun v w1 w2 e h => ⟨h.choose, h.choose_spec.1, ToldE.kp e.kp h.choose_spec.2⟩) ?_
  ·intro w125 e126; simp only [relOut]; intro u121 k122 s123; refine s_call rfl Tryd.call28 rfl ?_; refine (C_law03_told (hI104.mlt.ext e126) (by decide) (by decide) (by decide) k122 hz124).mono ?_; rintro _ w127 ⟨v133, rfl, r130, r131, r132, hf134, x128⟩; refine ⟨_, rfl, ?_⟩; exact Reg.nil ⟨rfl, x128, _, rfl, ⟨_, rfl, (ToldE_R (x := z124)).2 ⟨_, rfl, r130, r131, r132, hf134⟩⟩, trivial⟩
  refine Reg.take rfl rfl (Reg.rel (.p fun v w' => RdS (intE .i64) (mm [ownR [] ReportE 61 v92 z88, ownR [] ReportE 61 v75 z71] M) w' v ([2, 3] : List Int)) [] rfl rfl rfl RSub.nil rfl (nodupB_spec rfl) ?_ (fun v w1 w2 e h => h.adv (Adv.of_ext e)) ?_)
  ·intro w135 e136; simp only [relOut]; refine s_bs (E := (intE .i64)) (M := mm [ownR [] ReportE 61 v92 z88, ownR [] ReportE 61 v75 z71] M) (Bb := 0) (xs := ([2, 3] : List Int)) sl36 rfl rfl (Cls.cons rfl (Cls.cons rfl Cls.nil)) (Chs.cons ⟨rfl, (by decide)⟩ (Chs.cons ⟨rfl, (by decide)⟩ Chs.nil)) (hI104.mlt.ext e136) (Nat.zero_le _) rfl rfl ?_; intro a137 w138 x139 _ h140 _; exact Reg.nil ⟨rfl, x139, _, rfl, h140, trivial⟩
  refine Reg.take rfl rfl ?_
  obtain ⟨z144, hz144, h106⟩ := bnd h106
  refine Reg.rel (.p fun v w' => ∃ cs : List Value, v = Value.agg (List.toArray cs) ∧ ToldE.R (mm [ownR [] ReportE 61 v92 z88, ownR [] ReportE 61 v75 z71] M) w' cs z144) [(40, _)] rfl rfl rfl (RSub.cons rfl rfl RSub.nil) rfl (nodupB_spec rfl) ?_ (fun v w1 w2 e h => ⟨h.choose, h.choose_spec.1, ToldE.kp e.kp h.choose_spec.2⟩) ?_
  ·intro w145 e146; simp only [relOut]; intro u141 k142 s143; refine s_call rfl Tryd.call28 rfl ?_; refine (C_law03_told (hI104.mlt.ext e146) (by decide) (by decide) (by decide) k142 hz144).mono ?_; rintro _ w147 ⟨v153, rfl, r150, r151, r152, hf154, x148⟩; refine ⟨_, rfl, ?_⟩; exact Reg.nil ⟨rfl, x148, _, rfl, ⟨_, rfl, (ToldE_R (x := z144)).2 ⟨_, rfl, r150, r151, r152, hf154⟩⟩, trivial⟩
  refine Reg.take rfl rfl (Reg.rel (.p fun v w' => ∃ cs : List Value, v = Value.agg (List.toArray cs) ∧ StateE.R (mm [ownR [] ReportE 61 v92 z88, ownR [] ReportE 61 v75 z71] M) w' cs (State.mk (Told.mk z124.known z124.cents z124.since z124.by_) (Told.mk 0 0 0 []) (Told.mk z144.known z144.cents z144.since z144.by_) (Told.mk 0 0 0 []) (Told.mk 0 0 0 []) (Told.mk 0 0 0 []) (Span.mk 0 0) 1)) [(39, _), (41, _)] rfl rfl rfl (RSub.cons rfl rfl (RSub.cons rfl rfl RSub.nil)) rfl (nodupB_spec rfl) ?_ (fun v w1 w2 e h => ⟨h.choose, h.choose_spec.1, StateE.kp e.kp h.choose_spec.2⟩) ?_)
  ·intro w175 e176; simp only [relOut]; intro u155 k156 s157; obtain ⟨cs158, rfl, hR159⟩ := k156; obtain ⟨v163, rfl, r160, r161, r162, hf164⟩ := ToldE_R.1 hR159; intro u165 k166 s167; obtain ⟨cs168, rfl, hR169⟩ := k166; obtain ⟨v173, rfl, r170, r171, r172, hf174⟩ := ToldE_R.1 hR169; refine s_bd [(0, 4), (4, 4), (8, 4), (12, 4), (16, 4), (20, 4), (24, 2), (26, 1)] Tryd.zeroValue42 rfl Tryd.underlying42 (fun _ => by simp [Tryd.sizeOf38, Tryd.sizeOf40, Tryd.sizeOf5]) rfl (Cls.cons rfl (Cls.cons rfl (Cls.cons rfl (Cls.nil)))) rfl rfl ?_; exact Reg.nil ⟨rfl, Kp.refl _ _, _, rfl, ⟨_, rfl, ((StateE_R (x := (State.mk (Told.mk z124.known z124.cents z124.since z124.by_) (Told.mk 0 0 0 []) (Told.mk z144.known z144.cents z144.since z144.by_) (Told.mk 0 0 0 []) (Told.mk 0 0 0 []) (Told.mk 0 0 0 []) (Span.mk 0 0) 1))).2 ⟨_, _, _, _, _, _, rfl, r160, r161, r162, hf164, (show InK .u8 0 by decide), (show InK .i64 0 by decide), (show InK .i64 0 by decide), (RdS.nil _ _ _), r170, r171, r172, hf174, (show InK .u8 0 by decide), (show InK .i64 0 by decide), (show InK .i64 0 by decide), (RdS.nil _ _ _), (show InK .u8 0 by decide), (show InK .i64 0 by decide), (show InK .i64 0 by decide), (RdS.nil _ _ _), (show InK .u8 0 by decide), (show InK .i64 0 by decide), (show InK .i64 0 by decide), (RdS.nil _ _ _), (show InK .i64 0 by decide), (show InK .i64 0 by decide), (show InK .u8 1 by decide)⟩)⟩, trivial⟩
  refine Reg.take rfl rfl ?_
  obtain ⟨z215, hz215, h106⟩ := bnd h106
  refine Reg.relC (.bool z215) [(42, _)] rfl rfl (RSub.cons rfl rfl RSub.nil) rfl (nodupB_spec rfl) ?_ ?_
  ·intro w216 e217; simp only [relOut]; intro u177 k178 s179; obtain ⟨cs180, rfl, hR181⟩ := k178; obtain ⟨v185, v190, v195, v200, v205, v210, rfl, r182, r183, r184, hf186, r187, r188, r189, hf191, r192, r193, r194, hf196, r197, r198, r199, hf201, r202, r203, r204, hf206, r207, r208, r209, hf211, r212, r213, r214⟩ := StateE_R.1 hR181; refine s_call rfl Tryd.call24 rfl ?_; refine (C_ref03_SameState (hI104.mlt.ext e217) r27 r28 r29 ((hf31.adv (x65.trans (x68.trans ((hI67.eraseH 0).trans ((hI69.addOwnA e74 hf76).trans ((Adv.of_ext e83).trans ((hI87.addOwnA e91 hf93).trans (Adv.of_ext e100)))))))).adv (Adv.of_ext e217)) r32 r33 r34 ((hf36.adv (x65.trans (x68.trans ((hI67.eraseH 0).trans ((hI69.addOwnA e74 hf76).trans ((Adv.of_ext e83).trans ((hI87.addOwnA e91 hf93).trans (Adv.of_ext e100)))))))).adv (Adv.of_ext e217)) r37 r38 r39 ((hf41.adv (x65.trans (x68.trans ((hI67.eraseH 0).trans ((hI69.addOwnA e74 hf76).trans ((Adv.of_ext e83).trans ((hI87.addOwnA e91 hf93).trans (Adv.of_ext e100)))))))).adv (Adv.of_ext e217)) r42 r43 r44 ((hf46.adv (x65.trans (x68.trans ((hI67.eraseH 0).trans ((hI69.addOwnA e74 hf76).trans ((Adv.of_ext e83).trans ((hI87.addOwnA e91 hf93).trans (Adv.of_ext e100)))))))).adv (Adv.of_ext e217)) r47 r48 r49 ((hf51.adv (x65.trans (x68.trans ((hI67.eraseH 0).trans ((hI69.addOwnA e74 hf76).trans ((Adv.of_ext e83).trans ((hI87.addOwnA e91 hf93).trans (Adv.of_ext e100)))))))).adv (Adv.of_ext e217)) r52 r53 r54 ((hf56.adv (x65.trans (x68.trans ((hI67.eraseH 0).trans ((hI69.addOwnA e74 hf76).trans ((Adv.of_ext e83).trans ((hI87.addOwnA e91 hf93).trans (Adv.of_ext e100)))))))).adv (Adv.of_ext e217)) r57 r58 r59 r182 r183 r184 hf186 r187 r188 r189 hf191 r192 r193 r194 hf196 r197 r198 r199 hf201 r202 r203 r204 hf206 r207 r208 r209 hf211 r212 r213 r214 hz215).mono ?_; rintro _ w218 ⟨rfl, x219⟩; refine ⟨_, rfl, ?_⟩; exact Reg.nil ⟨rfl, x219, _, rfl, rfl, trivial⟩
  refine Reg.take rfl rfl (s_not rfl rfl (s_pkF rfl rfl rfl (s_mv rfl rfl (Reg.gsplit (t := 46) rfl (fun hg221 => ?_) (fun hg221 => ?_)))))
  ·replace h106 := cdT hg221 h106
   refine Reg.pass rfl rfl rfl rfl (Reg.pass rfl rfl rfl rfl (s_pkT rfl rfl rfl (s_mv rfl rfl (Reg.pass rfl rfl rfl rfl (Reg.pass rfl rfl rfl rfl (s_pkT rfl rfl rfl (s_mv rfl rfl (Reg.pass rfl rfl rfl rfl (Reg.pass rfl rfl rfl rfl (s_pkT rfl rfl rfl (s_mv rfl rfl ?_)))))))))))
   refine Reg.pass rfl rfl rfl rfl (Reg.pass rfl rfl rfl rfl (s_pkT rfl rfl rfl (s_mv rfl rfl (Reg.pass rfl rfl rfl rfl (Reg.pass rfl rfl rfl rfl (s_pkT rfl rfl rfl (s_mv rfl rfl (Reg.pass rfl rfl rfl rfl (Reg.pass rfl rfl rfl rfl (s_pkT rfl rfl rfl (Reg.nilF [] RSub.nil (nodupB_spec rfl) ?_)))))))))))
   intro w222 e223
   refine Reg.nil ?_
   have hI224 := hI104.ext e223
   obtain rfl := Option.some.inj h106
   refine ⟨rfl, true, ⟨hI224, (Adv.of_ext e223), rfl⟩, sb1 rfl⟩
  replace h106 := cdF hg221 h106
  refine Reg.take rfl rfl (s_mv rfl rfl (Reg.take rfl rfl (s_neq rfl rfl rfl (s_pkF rfl rfl rfl (s_mv rfl rfl (Reg.gsplit (t := 50) rfl (fun hg225 => ?_) (fun hg225 => ?_)))))))
  ·replace h106 := cdT hg225 h106
   refine Reg.pass rfl rfl rfl rfl (Reg.pass rfl rfl rfl rfl (s_pkT rfl rfl rfl (s_mv rfl rfl (Reg.pass rfl rfl rfl rfl (Reg.pass rfl rfl rfl rfl (s_pkT rfl rfl rfl (s_mv rfl rfl (Reg.pass rfl rfl rfl rfl (Reg.pass rfl rfl rfl rfl (s_pkT rfl rfl rfl (s_mv rfl rfl ?_)))))))))))
   refine Reg.pass rfl rfl rfl rfl (Reg.pass rfl rfl rfl rfl (s_pkT rfl rfl rfl (s_mv rfl rfl (Reg.pass rfl rfl rfl rfl (Reg.pass rfl rfl rfl rfl (s_pkT rfl rfl rfl (Reg.nilF [] RSub.nil (nodupB_spec rfl) ?_)))))))
   intro w226 e227
   refine Reg.nil ?_
   have hI228 := hI104.ext e227
   obtain rfl := Option.some.inj h106
   refine ⟨rfl, true, ⟨hI228, (Adv.of_ext e227), rfl⟩, sb1 rfl⟩
  replace h106 := cdF hg225 h106
  refine Reg.take rfl rfl (s_mv rfl rfl (Reg.take rfl rfl (s_neq rfl rfl rfl (s_pkF rfl rfl rfl (s_mv rfl rfl (Reg.gsplit (t := 54) rfl (fun hg229 => ?_) (fun hg229 => ?_)))))))
  ·replace h106 := cdT hg229 h106
   refine Reg.pass rfl rfl rfl rfl (Reg.pass rfl rfl rfl rfl (s_pkT rfl rfl rfl (s_mv rfl rfl (Reg.pass rfl rfl rfl rfl (Reg.pass rfl rfl rfl rfl (s_pkT rfl rfl rfl (s_mv rfl rfl (Reg.pass rfl rfl rfl rfl (Reg.pass rfl rfl rfl rfl (s_pkT rfl rfl rfl (s_mv rfl rfl ?_)))))))))))
   refine Reg.pass rfl rfl rfl rfl (Reg.pass rfl rfl rfl rfl (s_pkT rfl rfl rfl (Reg.nilF [] RSub.nil (nodupB_spec rfl) ?_)))
   intro w230 e231
   refine Reg.nil ?_
   have hI232 := hI104.ext e231
   obtain rfl := Option.some.inj h106
   refine ⟨rfl, true, ⟨hI232, (Adv.of_ext e231), rfl⟩, sb1 rfl⟩
  replace h106 := cdF hg229 h106
  refine Reg.take rfl rfl (s_mv rfl rfl (Reg.take rfl rfl (s_neq rfl rfl rfl (s_pkF rfl rfl rfl (s_mv rfl rfl (Reg.gsplit (t := 58) rfl (fun hg233 => ?_) (fun hg233 => ?_)))))))
  ·replace h106 := cdT hg233 h106
   refine Reg.pass rfl rfl rfl rfl (Reg.pass rfl rfl rfl rfl (s_pkT rfl rfl rfl (s_mv rfl rfl (Reg.pass rfl rfl rfl rfl (Reg.pass rfl rfl rfl rfl (s_pkT rfl rfl rfl (s_mv rfl rfl (Reg.pass rfl rfl rfl rfl (Reg.pass rfl rfl rfl rfl (s_pkT rfl rfl rfl (Reg.nilF [] RSub.nil (nodupB_spec rfl) ?_)))))))))))
   intro w234 e235
   refine Reg.nil ?_
   have hI236 := hI104.ext e235
   obtain rfl := Option.some.inj h106
   refine ⟨rfl, true, ⟨hI236, (Adv.of_ext e235), rfl⟩, sb1 rfl⟩
  replace h106 := cdF hg233 h106
  refine Reg.take rfl rfl (s_mv rfl rfl (Reg.take rfl rfl (s_neq rfl rfl rfl (s_pkF rfl rfl rfl (s_mv rfl rfl (Reg.gsplit (t := 62) rfl (fun hg237 => ?_) (fun hg237 => ?_)))))))
  ·replace h106 := cdT hg237 h106
   refine Reg.pass rfl rfl rfl rfl (Reg.pass rfl rfl rfl rfl (s_pkT rfl rfl rfl (s_mv rfl rfl (Reg.pass rfl rfl rfl rfl (Reg.pass rfl rfl rfl rfl (s_pkT rfl rfl rfl (Reg.nilF [] RSub.nil (nodupB_spec rfl) ?_)))))))
   intro w238 e239
   refine Reg.nil ?_
   have hI240 := hI104.ext e239
   obtain rfl := Option.some.inj h106
   refine ⟨rfl, true, ⟨hI240, (Adv.of_ext e239), rfl⟩, sb1 rfl⟩
  replace h106 := cdF hg237 h106
  refine Reg.take rfl rfl (s_mv rfl rfl (Reg.take rfl rfl (s_neq rfl rfl rfl (s_pkF rfl rfl rfl (s_mv rfl rfl (Reg.gsplit (t := 66) rfl (fun hg241 => ?_) (fun hg241 => ?_)))))))
  ·replace h106 := cdT hg241 h106
   refine Reg.pass rfl rfl rfl rfl (Reg.pass rfl rfl rfl rfl (s_pkT rfl rfl rfl (Reg.nilF [] RSub.nil (nodupB_spec rfl) ?_)))
   intro w242 e243
   refine Reg.nil ?_
   have hI244 := hI104.ext e243
   obtain rfl := Option.some.inj h106
   refine ⟨rfl, true, ⟨hI244, (Adv.of_ext e243), rfl⟩, sb1 rfl⟩
  replace h106 := cdF hg241 h106
  refine Reg.take rfl rfl (s_mv rfl rfl (Reg.take rfl rfl (s_neq rfl rfl rfl (s_pkF rfl rfl rfl (Reg.nilF [] RSub.nil (nodupB_spec rfl) ?_)))))
  intro w245 e246
  refine Reg.nil ?_
  have hI247 := hI104.ext e246
  obtain rfl := Option.some.inj h106
  refine ⟨rfl, !decide (z96 = (-1)), ⟨hI247, (Adv.of_ext e246), rfl⟩, sb1 rfl⟩
 rintro x107 w108 ⟨hI109, hA110, rfl⟩
 refine cw_cond rfl (fun hc248 => ?_) (fun hc248 => ?_)
 ·replace h := cdT hc248 h
  refine cw_seq (cw_regF (s_as rfl rfl (Reg.nil (cw_ret ?_))))
  obtain rfl := Option.some.inj h
  refine fin1 Tryd.results5 rfl ?_
  exact ⟨rfl, hI109.kp⟩
 replace h := cdF hc248 h
 refine cw_skip (cw_seq (cw_regF ?_))
 obtain ⟨z249, hz250, h⟩ := bnd h
 refine s_call rfl Tryd.call27 rfl ((C_law03_reports hI109.mlt hz250).mono ?_)
 rintro _ w251 ⟨v253, rfl, hf254, e252⟩
 refine ⟨_, rfl, ?_⟩
 have hI255 := hI109.addOwn e252 hf254
 refine s_as rfl rfl (Reg.nil (cw_seq (cw_regF (s_mv rfl rfl ?_))))
 obtain ⟨y256, hy256, h⟩ := bnd h
 refine y_ia 0 hI255 rfl rfl rfl hy256 Tryd.underlying22 Tryd.sizeOf61 rfl ?_
 intro g257 cs258 hg259 hR260 hC261
 have khR260 := hR260
 obtain ⟨rfl, r262, r263, r264, r265, r266, r267, r268, r269⟩ := ReportE_R.1 hR260
 refine s_fa rfl Tryd.underlying61 rfl Tryd.sizeOf3 rfl ?_
 obtain ⟨l270, hl270, h⟩ := bnd h
 refine y_sto 0 (E := ReportE) (o := 6) hI255 rfl rfl rfl rfl hg259 hl270 ((ReportE_R (x := y256)).2 ⟨rfl, r262, r263, r264, r265, r266, r267, r268, r269⟩) hC261 ((ReportE_R (x := (Report.mk y256.id y256.source y256.account y256.made y256.about y256.kind 1 y256.of_))).2 ⟨rfl, r262, r263, r264, r265, r266, r267, (show InK .i64 (1) by decide), r269⟩) rfl Tryd.sizeOf3 rfl (one1 rfl one0) ?_
 intro w271 hI272 x273
 refine Reg.nil (cw_seq (cw_regF ?_))
 obtain ⟨z274, hz275, h⟩ := bnd h
 refine s_call rfl Tryd.call27 rfl ((C_law03_reports hI272.mlt hz275).mono ?_)
 rintro _ w276 ⟨v278, rfl, hf279, e277⟩
 refine ⟨_, rfl, ?_⟩
 have hI280 := hI272.addOwn e277 hf279
 obtain ⟨z281, hz282, h⟩ := bnd h
 refine s_call rfl Tryd.call29 rfl ?_
 refine (C_law03_rep hI280.mlt (by decide) (by decide) (by decide) (by decide) (by decide) (by decide) (by decide) hz282).mono ?_
 rintro _ w283 ⟨rfl, r285, r286, r287, r288, r289, r290, r291, r292, e284⟩
 refine ⟨_, rfl, ?_⟩
 have hI293 := hI280.ext e284
 refine y_bs (E := ReportE) (xs := [z281]) sl22 hI293 rfl rfl (Cls.cons rfl Cls.nil) (Chs.cons ((ReportE_R (x := z281)).2 ⟨rfl, r285, r286, r287, r288, r289, r290, r291, r292⟩) Chs.nil) rfl rfl ?_
 intro v294 w295 hI296 x297
 have hf298 := hI296.freeze 0 rfl
 have hI299 := hI296.erase 0
 obtain ⟨l300, hl300, h⟩ := bnd h
 obtain ⟨hbl300, el300⟩ := appo_out hl300
 refine y_app 0 sl22 hI299 rfl rfl rfl hf298 hbl300 rfl ?_
 rw [← el300]
 intro v301 w302 hI303 x304
 refine s_as rfl rfl (Reg.nil (cw_seq (cw_regF ?_)))
 obtain ⟨z305, hz306, h⟩ := bnd h
 refine s_call rfl Tryd.call27 rfl ((C_law03_reports hI303.mlt hz306).mono ?_)
 rintro _ w307 ⟨v309, rfl, hf310, e308⟩
 refine ⟨_, rfl, ?_⟩
 have hI311 := hI303.addOwn e308 hf310
 obtain ⟨⟨z312, z313, z314⟩, hz315, h⟩ := bnd h
 refine s_call rfl Tryd.call15 rfl ?_
 refine (C_account_Fate (hI311.sel [1, 2, 3, 4] rfl).mlt ((hG.adv hI311.adv).adv (Hp.selA (σ := [ownR [] ReportE 61 v309 z305, ownR [] ReportE 61 v301 l300, ownR [] ReportE 61 v253 l270, ownR [] ReportE 61 v92 z88, ownR [] ReportE 61 v75 z71]) [1, 2, 3, 4])) (hI311.lendRd [1, 2, 3, 4] 0 rfl rfl) (by decide) (by decide) hz315).mono ?_
 rintro _ w316 ⟨rfl, r318, r319, r320, e317⟩
 refine ⟨_, rfl, ?_⟩
 have hI321 := hI311.ext e317
 refine s_mv rfl rfl ?_
 iterate 3 refine s_xt rfl rfl rfl ?_
 refine s_as rfl rfl (Reg.nil (cw_seq (cw_regF ?_)))
 obtain ⟨z322, hz323, h⟩ := bnd h
 refine s_call rfl Tryd.call27 rfl ((C_law03_reports hI321.mlt hz323).mono ?_)
 rintro _ w324 ⟨v326, rfl, hf327, e325⟩
 refine ⟨_, rfl, ?_⟩
 have hI328 := hI321.addOwn e325 hf327
 have hf329 := hI328.freeze 0 rfl
 have hI330 := hI328.erase 0
 obtain ⟨⟨z331, z332⟩, hz333, h⟩ := bnd h
 refine s_call rfl Tryd.call13 rfl ?_
 refine (C_account_Standing hI330.mlt (hG.adv hI330.adv) hf329 (by decide) hz333).mono ?_
 rintro _ w334 ⟨v336, rfl, hf337, r338, e335⟩
 refine ⟨_, rfl, ?_⟩
 have hI339 := hI330.addOwn e335 hf337
 refine s_mv rfl rfl (s_xt rfl rfl rfl (s_xt rfl rfl rfl (s_as rfl rfl (Reg.nil (cw_seq (cw_regF ?_))))))
 obtain ⟨z340, hz341, h⟩ := bnd h
 refine s_call rfl Tryd.call27 rfl ((C_law03_reports hI339.mlt hz341).mono ?_)
 rintro _ w342 ⟨v344, rfl, hf345, e343⟩
 refine ⟨_, rfl, ?_⟩
 have hI346 := hI339.addOwn e343 hf345
 have hf347 := hI346.freeze 0 rfl
 have hI348 := hI346.erase 0
 obtain ⟨⟨z349, z350⟩, hz351, h⟩ := bnd h
 refine s_call rfl Tryd.call20 rfl ?_
 refine (C_account_State hI348.mlt (hG.adv hI348.adv) hf347 (by decide) (by decide) (by decide) hz351).mono ?_
 rintro _ w352 ⟨v357, v362, v367, v372, v377, v382, rfl, r354, r355, r356, hf358, r359, r360, r361, hf363, r364, r365, r366, hf368, r369, r370, r371, hf373, r374, r375, r376, hf378, r379, r380, r381, hf383, r384, r385, r386, r387, e353⟩
 refine ⟨_, rfl, ?_⟩
 have hI388 := hI348.ext e353
 refine s_mv rfl rfl (s_xt rfl rfl rfl (s_xt rfl rfl rfl (s_as rfl rfl (Reg.nil (cw_seq (cw_regF ?_))))))
 obtain ⟨l389, hl389, h⟩ := bnd h
 refine y_mkS (E := ReportE) (z := Value.agg (List.toArray zR)) (zs := zR) (z0 := (Report.mk 0 0 0 0 0 0 0 0)) sl22 (by kernel_rfl) rfl (fun _ _ => (ReportE_R (x := (Report.mk 0 0 0 0 0 0 0 0))).2 ⟨rfl, (show InK .i64 0 by decide), (show InK .i64 0 by decide), (show InK .i64 0 by decide), (show InK .i64 0 by decide), (show InK .i64 0 by decide), (show InK .u8 0 by decide), (show InK .i64 0 by decide), (show InK .i64 0 by decide)⟩) hI388 rfl rfl hl389 rfl ?_
 intro v390 w391 hI392 x393
 have hf394 := hI392.freeze 0 rfl
 have hI395 := hI392.erase 0
 obtain ⟨⟨z396, z397⟩, hz398, h⟩ := bnd h
 refine s_call rfl Tryd.call22 rfl ?_
 refine (C_account_Clashes hI395.mlt (hG.adv hI395.adv) hf394 (by decide) (by decide) hz398).mono ?_
 rintro _ w399 ⟨v401, rfl, hf402, r403, e400⟩
 refine ⟨_, rfl, ?_⟩
 have hI404 := hI395.addOwn e400 hf402
 refine s_mv rfl rfl (s_xt rfl rfl rfl (s_xt rfl rfl rfl (s_as rfl rfl (s_as rfl rfl (Reg.nil ?_)))))
 obtain ⟨j405, h406, h⟩ := bnd h
 refine cw_keep [2, 5, 8, 9, 10, 12] rfl (cw_seqD 6 (ι := Bool) (fun x407 => [(0, Value.bool x407)]) (fun x407 => fun w408 => Hp w [] M [ownR [] ClashE 55 v401 z396, ownR [] ReportE 61 v336 z331, ownR [] ReportE 61 v309 z305, ownR [] ReportE 61 v301 l300, ownR [] ReportE 61 v253 l270, ownR [] ReportE 61 v92 z88, ownR [] ReportE 61 v75 z71] w408 ∧ Adv (mm [ownR [] ClashE 55 v401 z396, ownR [] ReportE 61 v336 z331, ownR [] ReportE 61 v309 z305, ownR [] ReportE 61 v301 l300, ownR [] ReportE 61 v253 l270, ownR [] ReportE 61 v92 z88, ownR [] ReportE 61 v75 z71] M) (mm [ownR [] ClashE 55 v401 z396, ownR [] ReportE 61 v336 z331, ownR [] ReportE 61 v309 z305, ownR [] ReportE 61 v301 l300, ownR [] ReportE 61 v253 l270, ownR [] ReportE 61 v92 z88, ownR [] ReportE 61 v75 z71] M) w399 w408 ∧ x407 = j405) ?_ ?_)
 ·refine cw_regF (s_mv rfl rfl (s_eql rfl rfl rfl (s_mv rfl rfl (Reg.gsplit (t := 101) rfl (fun hg411 => ?_) (fun hg411 => ?_)))))
  ·replace h406 := cdT hg411 h406
   refine Reg.take rfl rfl (s_mv rfl rfl (Reg.take rfl rfl (s_eql rfl rfl rfl (s_pkT rfl rfl rfl (s_mv rfl rfl (Reg.gsplit (t := 105) rfl (fun hg412 => ?_) (fun hg412 => ?_)))))))
   ·replace h406 := cdT hg412 h406
    refine Reg.take rfl rfl (s_mv rfl rfl (Reg.take rfl rfl (s_eql rfl rfl rfl (s_pkT rfl rfl rfl (s_mv rfl rfl (Reg.gsplit (t := 109) rfl (fun hg413 => ?_) (fun hg413 => ?_)))))))
    ·replace h406 := cdT hg413 h406
     refine Reg.take rfl rfl (s_mv rfl rfl (Reg.take rfl rfl (s_eql rfl rfl rfl (s_pkT rfl rfl rfl (s_mv rfl rfl (Reg.gsplit (t := 113) rfl (fun hg414 => ?_) (fun hg414 => ?_)))))))
     ·replace h406 := cdT hg414 h406
      refine Reg.take rfl rfl (s_mv rfl rfl (Reg.take rfl rfl ?_))
      obtain ⟨z415, hz416, h406⟩ := bnd h406
      refine s_call rfl Tryd.call17 rfl ((C_account_Check (hI404.sel [0, 1, 2, 3, 5, 6] rfl).mlt ((hG.adv hI404.adv).adv (Hp.selA (σ := [ownR [] ClashE 55 v401 z396, ownR [] ReportE 61 v336 z331, ownR [] ReportE 61 v309 z305, ownR [] ReportE 61 v301 l300, ownR [] ReportE 61 v253 l270, ownR [] ReportE 61 v92 z88, ownR [] ReportE 61 v75 z71]) [0, 1, 2, 3, 5, 6])) (hI404.lendRd [0, 1, 2, 3, 5, 6] 4 rfl rfl) hz416).mono ?_)
      rintro _ w417 ⟨rfl, r419, e418⟩
      refine ⟨_, rfl, ?_⟩
      have hI420 := hI404.ext e418
      refine Reg.take rfl rfl (s_eql rfl rfl rfl (s_pkT rfl rfl rfl (s_mv rfl rfl (Reg.gsplit (t := 118) rfl (fun hg421 => ?_) (fun hg421 => ?_)))))
      ·replace h406 := cdT hg421 h406
       refine Reg.take rfl rfl (s_mv rfl rfl (Reg.take rfl rfl ?_))
       obtain ⟨z422, hz423, h406⟩ := bnd h406
       refine s_call rfl Tryd.call17 rfl ((C_account_Check (hI420.sel [0, 1, 2, 4, 5, 6] rfl).mlt ((hG.adv hI420.adv).adv (Hp.selA (σ := [ownR [] ClashE 55 v401 z396, ownR [] ReportE 61 v336 z331, ownR [] ReportE 61 v309 z305, ownR [] ReportE 61 v301 l300, ownR [] ReportE 61 v253 l270, ownR [] ReportE 61 v92 z88, ownR [] ReportE 61 v75 z71]) [0, 1, 2, 4, 5, 6])) (hI420.lendRd [0, 1, 2, 4, 5, 6] 3 rfl rfl) hz423).mono ?_)
       rintro _ w424 ⟨rfl, r426, e425⟩
       refine ⟨_, rfl, ?_⟩
       have hI427 := hI420.ext e425
       refine Reg.take rfl rfl (s_eql rfl rfl rfl (s_pkT rfl rfl rfl (s_as rfl rfl (Reg.nil ?_))))
       obtain rfl := Option.some.inj h406
       refine ⟨rfl, decide (z422 = 31), ⟨hI427, ((Adv.of_ext e418).trans (Adv.of_ext e425)), rfl⟩, sb1 rfl⟩
      replace h406 := cdF hg421 h406
      iterate 3 refine Reg.pass rfl rfl rfl rfl ?_
      refine s_pkF rfl rfl rfl (s_as rfl rfl (Reg.nil ?_))
      obtain rfl := Option.some.inj h406
      refine ⟨rfl, false, ⟨hI420, (Adv.of_ext e418), rfl⟩, sb1 rfl⟩
     replace h406 := cdF hg414 h406
     iterate 3 refine Reg.pass rfl rfl rfl rfl ?_
     refine s_pkF rfl rfl rfl (s_mv rfl rfl ?_)
     iterate 3 refine Reg.pass rfl rfl rfl rfl ?_
     refine s_pkF rfl rfl rfl (s_as rfl rfl (Reg.nil ?_))
     obtain rfl := Option.some.inj h406
     refine ⟨rfl, false, ⟨hI404, (Adv.refl _ _), rfl⟩, sb1 rfl⟩
    replace h406 := cdF hg413 h406
    refine Reg.pass rfl rfl rfl rfl (Reg.pass rfl rfl rfl rfl (s_pkF rfl rfl rfl (s_mv rfl rfl ?_)))
    iterate 3 refine Reg.pass rfl rfl rfl rfl ?_
    refine s_pkF rfl rfl rfl (s_mv rfl rfl ?_)
    iterate 3 refine Reg.pass rfl rfl rfl rfl ?_
    refine s_pkF rfl rfl rfl (s_as rfl rfl (Reg.nil ?_))
    obtain rfl := Option.some.inj h406
    refine ⟨rfl, false, ⟨hI404, (Adv.refl _ _), rfl⟩, sb1 rfl⟩
   replace h406 := cdF hg412 h406
   refine Reg.pass rfl rfl rfl rfl (Reg.pass rfl rfl rfl rfl (s_pkF rfl rfl rfl (s_mv rfl rfl (Reg.pass rfl rfl rfl rfl (Reg.pass rfl rfl rfl rfl (s_pkF rfl rfl rfl (s_mv rfl rfl ?_)))))))
   iterate 3 refine Reg.pass rfl rfl rfl rfl ?_
   refine s_pkF rfl rfl rfl (s_mv rfl rfl ?_)
   iterate 3 refine Reg.pass rfl rfl rfl rfl ?_
   refine s_pkF rfl rfl rfl (s_as rfl rfl (Reg.nil ?_))
   obtain rfl := Option.some.inj h406
   refine ⟨rfl, false, ⟨hI404, (Adv.refl _ _), rfl⟩, sb1 rfl⟩
  replace h406 := cdF hg411 h406
  refine Reg.pass rfl rfl rfl rfl (Reg.pass rfl rfl rfl rfl (s_pkF rfl rfl rfl (s_mv rfl rfl (Reg.pass rfl rfl rfl rfl (Reg.pass rfl rfl rfl rfl (s_pkF rfl rfl rfl (s_mv rfl rfl (Reg.pass rfl rfl rfl rfl (Reg.pass rfl rfl rfl rfl (s_pkF rfl rfl rfl (s_mv rfl rfl ?_)))))))))))
  iterate 3 refine Reg.pass rfl rfl rfl rfl ?_
  refine s_pkF rfl rfl rfl (s_mv rfl rfl ?_)
  iterate 3 refine Reg.pass rfl rfl rfl rfl ?_
  refine s_pkF rfl rfl rfl (s_as rfl rfl (Reg.nil ?_))
  obtain rfl := Option.some.inj h406
  refine ⟨rfl, false, ⟨hI404, (Adv.refl _ _), rfl⟩, sb1 rfl⟩
 rintro x407 w408 ⟨hI409, hA410, rfl⟩
 refine cw_ret ?_
 obtain rfl := Option.some.inj h
 refine fin1 Tryd.results5 rfl ?_
 exact ⟨rfl, hI409.kp⟩
end Go.Proofs.YtepjkmoipjeghaaDoor
namespace Go.Proofs.YtepjkmoipjeghaaDoor
open Go Go.Sx
namespace S
theorem st45 : stF (List.filter (ofA 5 30) [g1, g2', g3]) = ⟨⟨2, 0, 8, [1]⟩, t0, ⟨2, 520, 15, [2, 3]⟩, t0, t0, t0, ⟨0, 0⟩, 1⟩ := by
  have e : List.filter (ofA 5 30) [g1, g2', g3] = [g1, g2', g3] := rfl
  rw [e]; unfold stF
  have e1 : fk [g1, g2', g3] 1 = [g1] := rfl
  have e2 : fk [g1, g2', g3] 2 = [] := rfl
  have e3 : fk [g1, g2', g3] 3 = [g2', g3] := rfl
  have e4 : fk [g1, g2', g3] 4 = [] := rfl
  have e5 : fk [g1, g2', g3] 5 = [] := rfl
  have e6 : fk [g1, g2', g3] 6 = [] := rfl
  have e7 : fk [g1, g2', g3] 7 = [] := rfl
  have l3 : lastT [g2', g3] = ⟨2, 520, 15, [2, 3]⟩ := t23'
  rw [pay0 e4, e1, e2, e3, e5, e6, e7, t1, l3]; rfl
theorem ft45a : ftOf (kn9 45) 2 = (1, 5, 0) := by
  have hK := (kw9 45).ok
  have h2 : g2 ∈ kn9 45 := by simp [kn9, ex9, g2]
  have hw : WdR (kn9 45) g2.id none := goneB_iff.1 (by kernel_rfl)
  have hb : best (kn9 45) g2 = some ⟨5, 70, 5, 40, 15, 8, 520, 2⟩ := by rw [best_B hK h2]; kernel_rfl
  show ftOf (kn9 45) g2.id = _
  have h := ft_is hK h2
  generalize ftOf (kn9 45) g2.id = z at h ⊢
  cases h with
  | works9 o h9 h => exact absurd h9 (by decide)
  | stray9 h9 h => exact absurd h9 (by decide)
  | gone w h => have := Least.uniq h hw; cases this
  | works8 o h8 hw h => exact absurd h8 (by decide)
  | stray8 h8 hw h => exact absurd h8 (by decide)
  | stands h7 hw h => rw [h] at hb; cases hb
  | fixed c h7 hw h => rw [h] at hb; cases hb; rfl
theorem ft45b : ftOf (kn9 45) 6 = (4, -1, 0) := by
  have hK := (kw9 45).ok
  have h6 : (⟨6, 70, 5, 41, 0, 9, 0, 4⟩ : Report) ∈ kn9 45 := by simp [kn9, ex9]
  have h4 : g4 ∈ kn9 45 := by simp [kn9, ex9, g4]
  have h := ft_is hK h6
  generalize hz : ftOf (kn9 45) (⟨6, 70, 5, 41, 0, 9, 0, 4⟩ : Report).id = z at h
  cases h with
  | works9 o h9 h => rfl
  | stray9 h9 h => exact absurd ⟨g4, ⟨h4, rfl, rfl, rfl⟩, by decide⟩ h
  | gone w h => have := Least.uniq h (wd_nine hK h6 rfl); cases this
  | works8 o h8 hw h => rfl
  | stray8 h8 hw h => exact absurd h8 (by decide)
  | stands h7 hw h => exact absurd rfl h7.2
  | fixed c h7 hw h => exact absurd rfl h7.2
theorem chk_wild : chkE (⟨1, 70, 5, 10, 8, 1, 1, 0⟩ :: [g2, g3, g4, ⟨5, 70, 5, 40, 15, 8, 520, 2⟩, ⟨6, 70, 5, 41, 0, 9, 0, 4⟩, g7, g8, g9]) = 30 := by
  unfold chkE
  rw [if_neg (by decide), if_pos ⟨_, List.mem_cons_self .., fun h => by unfold V at h; have := h.2.2.2.2.2.2.2.1.2; simp [most] at this⟩]
theorem chk_two : chkE (ex9 ++ [⟨1, 70, 5, 10, 9, 1, 0, 0⟩]) = 31 := by
  unfold chkE
  rw [if_neg (by decide), if_neg, if_pos]
  · intro h
    have := h g1 (by simp [ex9, g1]) ⟨1, 70, 5, 10, 9, 1, 0, 0⟩ (by simp) rfl
    simp [g1] at this
  · rintro ⟨r, hr, h⟩
    rcases List.mem_append.1 hr with hr | hr
    · exact h (ex9_v r hr)
    · obtain rfl : r = ⟨1, 70, 5, 10, 9, 1, 0, 0⟩ := by simpa using hr
      exact h (by simp [V, most])
theorem chk_many : chkE (List.replicate 61 (⟨0, 0, 0, 0, 0, 0, 0, 0⟩ : Report)) = 4 := by
  unfold chkE
  rw [if_pos (by simp)]
theorem p_AccountExamples : P.law03_AccountExamples = some true := by
  apply Ret.yes
  unfold P.law03_AccountExamples
  simp only [p_reports]
  refine Ret.bind (Ret.bind (Ret.val alive_is (Ret.ok (Ret.condF rfl ?_))))
  refine Ret.bind (Ret.ok (Ret.bind (r_State1 ex9_in ex9_chk rfl fun F hF => ?_)))
  obtain rfl := hF.uniq fc45 fun _ => Iff.rfl
  rw [st45]
  refine Ret.bind (Ret.ok (Ret.bind (r_Fate1 ex9_in ex9_chk rfl fun K hK => ?_)))
  rw [ftOf_pm hK.ok (kw9 45).ok (hK.perm (kw9 45)), ft45a]
  refine Ret.bind (Ret.ok (Ret.bind (r_Fate1 ex9_in ex9_chk rfl fun K hK => ?_)))
  rw [ftOf_pm hK.ok (kw9 45).ok (hK.perm (kw9 45)), ft45b]
  dsimp only
  simp only [p_told]
  have few {s : State} (h : s.opened.by_.length + s.limit.by_.length + s.owed.by_.length + s.late.by_.length + s.default.by_.length + s.closed.by_.length ≤ 100) : Few s := by
    refine ⟨?_, ?_, ?_, ?_, ?_, ?_⟩ <;> omega
  refine Ret.bind (Ret.condF rfl (Ret.bind (Ret.ok (Ret.bind (Ret.ok ?_)))))
  refine Ret.bind (Ret.val (r_sameS (few (by decide))) ?_)
  refine Ret.condF rfl (Ret.condF rfl (Ret.condF rfl (Ret.condF rfl (Ret.condF rfl (Ret.condF rfl (Ret.ok (Ret.condF rfl ?_)))))))
  refine Ret.bind (Ret.ok (Ret.bind (Ret.ixo (i := 0) (y := g1) rfl (Ret.bind (Ret.seto (i := 0) (by decide) ?_)))))
  refine Ret.bind (Ret.ok (Ret.bind (Ret.ok (Ret.bind (Ret.appo (by decide) (by decide) ?_)))))
  refine Ret.bind (Ret.ok (Ret.bind (r_Fate1 ex9_in ex9_chk rfl fun K hK => ?_)))
  rw [ft_six (fun r hr e => by
    have := (hK.mem r).1 hr
    have h9 : r = ⟨5, 70, 5, 40, 15, 8, 520, 2⟩ := ids_one ex9_nd this.1 (by simp [ex9]) e
    rw [h9] at this
    exact absurd this.2 (by decide)) hK.ok]
  refine Ret.bind (Ret.ok (Ret.bind (r_aStanding ex9_in fun z hz => ?_)))
  have hz2 : z.2 = 2 := by
    rcases hz with ⟨c, _⟩ | ⟨_, _, rfl⟩ | ⟨_, c, _⟩
    · exact absurd ex9_chk c
    · rfl
    · exact absurd c (by decide)
  refine Ret.bind (Ret.ok (Ret.bind (r_aState ex9_in fun y hy => ?_)))
  have hy2 : y.2 = 2 := by
    rcases hy with ⟨c, _⟩ | ⟨_, _, rfl⟩ | ⟨_, c, _⟩
    · exact absurd ex9_chk c
    · rfl
    · exact absurd c (by decide)
  refine Ret.bind (Ret.mko (n := 61) (by decide) (by decide) (Ret.bind (r_aClashes (fun r hr => ?_) fun x hx => ?_)))
  · obtain ⟨_, rfl⟩ := List.mem_replicate.1 hr
    refine ⟨?_, ?_, ?_, ?_, ?_, ?_, ?_, ?_⟩ <;> first | rw [InK.i64] | rw [InK.u8]
    all_goals decide
  · have hx2 : x.2 = 4 := by
      rcases hx with ⟨_, rfl⟩ | ⟨c, _⟩ | ⟨c, _⟩
      · exact chk_many
      · rw [chk_many] at c; cases c
      · rw [chk_many] at c; cases c
    obtain ⟨z1, z2⟩ := z
    obtain ⟨y1, y2⟩ := y
    obtain ⟨x1, x2⟩ := x
    dsimp only at hz2 hy2 hx2 ⊢
    subst hz2 hy2 hx2
    refine Ret.bind (Ret.condT rfl (Ret.condT rfl (Ret.condT rfl (Ret.condT rfl ?_))))
    refine Ret.bind (r_acheck (fun r hr => ?_) ?_)
    · have : r = ⟨1, 70, 5, 10, 8, 1, 1, 0⟩ ∨ r ∈ ex9 := by
        rcases List.mem_or_eq_of_mem_set hr with h | h
        · exact .inr h
        · exact .inl h
      rcases this with rfl | h
      · refine ⟨?_, ?_, ?_, ?_, ?_, ?_, ?_, ?_⟩ <;> first | rw [InK.i64] | rw [InK.u8]
        all_goals decide
      · exact ex9_in r h
    · have e1 : (ex9.set 0 ⟨g1.id, g1.source, g1.account, g1.made, g1.about, g1.kind, 1, g1.of_⟩) = ⟨1, 70, 5, 10, 8, 1, 1, 0⟩ :: [g2, g3, g4, ⟨5, 70, 5, 40, 15, 8, 520, 2⟩, ⟨6, 70, 5, 41, 0, 9, 0, 4⟩, g7, g8, g9] := rfl
      rw [e1, chk_wild]
      refine Ret.condT rfl (Ret.bind (r_acheck (fun r hr => ?_) ?_))
      · rcases List.mem_append.1 hr with h | h
        · exact ex9_in r h
        · obtain rfl : r = ⟨1, 70, 5, 10, 9, 1, 0, 0⟩ := by simpa using h
          refine ⟨?_, ?_, ?_, ?_, ?_, ?_, ?_, ?_⟩ <;> first | rw [InK.i64] | rw [InK.u8]
          all_goals decide
      · rw [chk_two]
        exact Ret.ok (Ret.ok rfl)
end S
end Go.Proofs.YtepjkmoipjeghaaDoor
