/-
  Part AccountClashes 8 of the texts that the statement's proof stands on: what memory holds, how code is walked, what the functions reckon. In the order in which they build.
-/
import Derived.Test.YtepjkmoipjeghaaDoorProg
import Derived.Test.YtepjkmoipjeghaaDoorAqAccountClashes7
set_option linter.unusedVariables false
set_option linter.unusedSectionVars false
set_option maxRecDepth 20000
set_option maxHeartbeats 4000000
namespace Go.Proofs.YtepjkmoipjeghaaDoor
open Go Go.Sx Go.RowKit
noncomputable def P.law03_rep (id : Int) (source : Int) (made : Int) (kind : Int) (about : Int) (cents : Int) (of_ : Int) : Option Report :=
  some (Report.mk id source 5 made about kind cents of_)
theorem C_law03_rep {M : List Nat} {w : World} (hM : MLt M w) {id : Int} (f_id_0 : InK .i64 id) {source : Int} (f_source_0 : InK .i64 source) {made : Int} (f_made_0 : InK .i64 made) {kind : Int} (f_kind_0 : InK .u8 kind) {about : Int} (f_about_0 : InK .i64 about) {cents : Int} (f_cents_0 : InK .i64 cents) {of_ : Int} (f_of__0 : InK .i64 of_) {r0 : Report} (h : P.law03_rep id source made kind about cents of_ = some r0) :
  Calls Tryd.prog 29 (List.toArray [vi id, vi source, vi made, vu kind, vi about, vi cents, vi of_]) w fun e w' => e = .returned (Value.agg (List.toArray (vR r0))) ∧ InK .i64 r0.id ∧ InK .i64 r0.source ∧ InK .i64 r0.account ∧ InK .i64 r0.made ∧ InK .i64 r0.about ∧ InK .u8 r0.kind ∧ InK .i64 r0.cents ∧ InK .i64 r0.of_ ∧ Ext w w' := by
 have hI := Hp.start (Mu := []) hM
 refine calls_cw Tryd.func29 rfl Tryd.ntmps29 rfl ?_
 refine cw_seq (cw_regF (y_al hI Tryd.zeroValue61 rfl rfl ?_))
 intro b1 w2 hI3 x4
 refine Reg.nil (cw_seq (cw_regF ?_))
 iterate 7 refine s_mv rfl rfl ?_
 refine s_bd [(0, 1), (1, 1), (2, 1), (3, 1), (4, 1), (5, 1), (6, 1), (7, 1)] Tryd.zeroValue61 rfl Tryd.underlying61 (fun _ => by simp [Tryd.sizeOf3, Tryd.sizeOf5]) rfl (Cls.cons rfl (Cls.cons rfl (Cls.cons rfl (Cls.cons rfl (Cls.cons rfl (Cls.cons rfl (Cls.cons rfl (Cls.cons rfl (Cls.nil))))))))) rfl rfl ?_
 refine y_st 0 hI3 rfl rfl rfl rfl Tryd.sizeOf61 rfl rfl (on8 rfl rfl rfl rfl rfl rfl rfl rfl) ?_
 intro w5 hI6 x7
 refine Reg.nil (cw_ret ?_)
 obtain rfl := Option.some.inj h
 refine fin_any Tryd.results29 (AllRs.cons (RsOk.agg rfl (hI6.row 0 rfl).rd.cells Tryd.isAgg61 rfl Tryd.sizeOf61) (AllRs.nil)) rfl ?_
 exact ⟨rfl, f_id_0, f_source_0, (show InK .i64 5 by decide), f_made_0, f_about_0, f_kind_0, f_cents_0, f_of__0, hI6.kp⟩
noncomputable def P.law03_reports  : Option (List Report) :=
  Option.bind (P.law03_rep 1 70 10 1 8 0 0) fun z1 => Option.bind (P.law03_rep 2 70 20 3 15 500 0) fun z14 => Option.bind (P.law03_rep 3 80 21 3 15 520 0) fun z27 => Option.bind (P.law03_rep 4 70 30 5 29 35 0) fun z40 => Option.bind (P.law03_rep 5 70 40 8 15 520 2) fun z53 => Option.bind (P.law03_rep 6 70 41 9 0 0 4) fun z66 => Option.bind (P.law03_rep 7 70 50 4 45 100 0) fun z79 => Option.bind (P.law03_rep 8 80 50 4 45 100 0) fun z92 => Option.bind (P.law03_rep 9 80 51 4 45 30 0) fun z105 => some ([z1, z14, z27, z40, z53, z66, z79, z92, z105] : List Report)
theorem C_law03_reports {M : List Nat} {w : World} (hM : MLt M w)  {r0 : (List Report)} (h : P.law03_reports  = some r0) :
  Calls Tryd.prog 27 (List.toArray []) w fun e w' => ∃ v0_0 : Value, e = .returned (v0_0) ∧ (Sx.Own ReportE 61 0 M w' v0_0 r0 ∧ ∀ b ∈ ob v0_0, w.heap.size ≤ b) ∧ Ext w w' := by
 have hI := Hp.start (Mu := []) hM
 refine calls_cw Tryd.func27 rfl Tryd.ntmps27 rfl ?_
 refine cw_seq (cw_regF (s_as rfl rfl (Reg.nil (cw_seq (cw_regF ?_)))))
 obtain ⟨z1, hz2, h⟩ := bnd h
 refine s_call rfl Tryd.call29 rfl ?_
 refine (C_law03_rep hI.mlt (by decide) (by decide) (by decide) (by decide) (by decide) (by decide) (by decide) hz2).mono ?_
 rintro _ w3 ⟨rfl, r5, r6, r7, r8, r9, r10, r11, r12, e4⟩
 refine ⟨_, rfl, ?_⟩
 have hI13 := hI.ext e4
 obtain ⟨z14, hz15, h⟩ := bnd h
 refine s_call rfl Tryd.call29 rfl ?_
 refine (C_law03_rep hI13.mlt (by decide) (by decide) (by decide) (by decide) (by decide) (by decide) (by decide) hz15).mono ?_
 rintro _ w16 ⟨rfl, r18, r19, r20, r21, r22, r23, r24, r25, e17⟩
 refine ⟨_, rfl, ?_⟩
 have hI26 := hI13.ext e17
 obtain ⟨z27, hz28, h⟩ := bnd h
 refine s_call rfl Tryd.call29 rfl ?_
 refine (C_law03_rep hI26.mlt (by decide) (by decide) (by decide) (by decide) (by decide) (by decide) (by decide) hz28).mono ?_
 rintro _ w29 ⟨rfl, r31, r32, r33, r34, r35, r36, r37, r38, e30⟩
 refine ⟨_, rfl, ?_⟩
 have hI39 := hI26.ext e30
 obtain ⟨z40, hz41, h⟩ := bnd h
 refine s_call rfl Tryd.call29 rfl ?_
 refine (C_law03_rep hI39.mlt (by decide) (by decide) (by decide) (by decide) (by decide) (by decide) (by decide) hz41).mono ?_
 rintro _ w42 ⟨rfl, r44, r45, r46, r47, r48, r49, r50, r51, e43⟩
 refine ⟨_, rfl, ?_⟩
 have hI52 := hI39.ext e43
 obtain ⟨z53, hz54, h⟩ := bnd h
 refine s_call rfl Tryd.call29 rfl ?_
 refine (C_law03_rep hI52.mlt (by decide) (by decide) (by decide) (by decide) (by decide) (by decide) (by decide) hz54).mono ?_
 rintro _ w55 ⟨rfl, r57, r58, r59, r60, r61, r62, r63, r64, e56⟩
 refine ⟨_, rfl, ?_⟩
 have hI65 := hI52.ext e56
 obtain ⟨z66, hz67, h⟩ := bnd h
 refine s_call rfl Tryd.call29 rfl ?_
 refine (C_law03_rep hI65.mlt (by decide) (by decide) (by decide) (by decide) (by decide) (by decide) (by decide) hz67).mono ?_
 rintro _ w68 ⟨rfl, r70, r71, r72, r73, r74, r75, r76, r77, e69⟩
 refine ⟨_, rfl, ?_⟩
 have hI78 := hI65.ext e69
 obtain ⟨z79, hz80, h⟩ := bnd h
 refine s_call rfl Tryd.call29 rfl ?_
 refine (C_law03_rep hI78.mlt (by decide) (by decide) (by decide) (by decide) (by decide) (by decide) (by decide) hz80).mono ?_
 rintro _ w81 ⟨rfl, r83, r84, r85, r86, r87, r88, r89, r90, e82⟩
 refine ⟨_, rfl, ?_⟩
 have hI91 := hI78.ext e82
 obtain ⟨z92, hz93, h⟩ := bnd h
 refine s_call rfl Tryd.call29 rfl ?_
 refine (C_law03_rep hI91.mlt (by decide) (by decide) (by decide) (by decide) (by decide) (by decide) (by decide) hz93).mono ?_
 rintro _ w94 ⟨rfl, r96, r97, r98, r99, r100, r101, r102, r103, e95⟩
 refine ⟨_, rfl, ?_⟩
 have hI104 := hI91.ext e95
 obtain ⟨z105, hz106, h⟩ := bnd h
 refine s_call rfl Tryd.call29 rfl ?_
 refine (C_law03_rep hI104.mlt (by decide) (by decide) (by decide) (by decide) (by decide) (by decide) (by decide) hz106).mono ?_
 rintro _ w107 ⟨rfl, r109, r110, r111, r112, r113, r114, r115, r116, e108⟩
 refine ⟨_, rfl, ?_⟩
 have hI117 := hI104.ext e108
 refine y_bs (E := ReportE) (xs := [z1, z14, z27, z40, z53, z66, z79, z92, z105]) sl22 hI117 rfl rfl (Cls.cons rfl (Cls.cons rfl (Cls.cons rfl (Cls.cons rfl (Cls.cons rfl (Cls.cons rfl (Cls.cons rfl (Cls.cons rfl (Cls.cons rfl Cls.nil))))))))) (Chs.cons ((ReportE_R (x := z1)).2 ⟨rfl, r5, r6, r7, r8, r9, r10, r11, r12⟩) (Chs.cons ((ReportE_R (x := z14)).2 ⟨rfl, r18, r19, r20, r21, r22, r23, r24, r25⟩) (Chs.cons ((ReportE_R (x := z27)).2 ⟨rfl, r31, r32, r33, r34, r35, r36, r37, r38⟩) (Chs.cons ((ReportE_R (x := z40)).2 ⟨rfl, r44, r45, r46, r47, r48, r49, r50, r51⟩) (Chs.cons ((ReportE_R (x := z53)).2 ⟨rfl, r57, r58, r59, r60, r61, r62, r63, r64⟩) (Chs.cons ((ReportE_R (x := z66)).2 ⟨rfl, r70, r71, r72, r73, r74, r75, r76, r77⟩) (Chs.cons ((ReportE_R (x := z79)).2 ⟨rfl, r83, r84, r85, r86, r87, r88, r89, r90⟩) (Chs.cons ((ReportE_R (x := z92)).2 ⟨rfl, r96, r97, r98, r99, r100, r101, r102, r103⟩) (Chs.cons ((ReportE_R (x := z105)).2 ⟨rfl, r109, r110, r111, r112, r113, r114, r115, r116⟩) Chs.nil))))))))) rfl rfl ?_
 intro v118 w119 hI120 x121
 refine s_as rfl rfl (Reg.nil (cw_ret ?_))
 obtain rfl := Option.some.inj h
 refine fin1 Tryd.results27 rfl ?_
 exact ⟨_, rfl, (hI120.ownOut 0 rfl), hI120.kp⟩
noncomputable def P.law03_told (known : Int) (cents : Int) (since : Int) (by_ : (List Int)) : Option Told :=
  some (Told.mk known cents since by_)
theorem C_law03_told {M : List Nat} {w : World} (hM : MLt M w) {known : Int} (f_known_0 : InK .u8 known) {cents : Int} (f_cents_0 : InK .i64 cents) {since : Int} (f_since_0 : InK .i64 since) {by_ : (List Int)} {v_by__0 : Value} (f_by__0 : RdS (intE .i64) M w v_by__0 by_) {r0 : Told} (h : P.law03_told known cents since by_ = some r0) :
  Calls Tryd.prog 28 (List.toArray [vu known, vi cents, vi since, v_by__0]) w fun e w' => ∃ v0_3 : Value, e = .returned (Value.agg (List.toArray (tV r0 v0_3 []))) ∧ InK .u8 r0.known ∧ InK .i64 r0.cents ∧ InK .i64 r0.since ∧ RdS (intE .i64) M w' v0_3 r0.by_ ∧ Ext w w' := by
 have hI := Hp.start (Mu := []) hM
 refine calls_cw Tryd.func28 rfl Tryd.ntmps28 rfl ?_
 refine cw_seq (cw_regF (y_al hI Tryd.zeroValue38 rfl rfl ?_))
 intro b1 w2 hI3 x4
 refine Reg.nil (cw_seq (cw_regF ?_))
 iterate 4 refine s_mv rfl rfl ?_
 refine s_bd [(0, 1), (1, 1), (2, 1), (3, 1)] Tryd.zeroValue38 rfl Tryd.underlying38 (fun _ => by simp [Tryd.sizeOf3, Tryd.sizeOf36, Tryd.sizeOf5]) rfl (Cls.cons rfl (Cls.cons rfl (Cls.cons rfl (Cls.cons (RdS.cells1 f_by__0) (Cls.nil))))) rfl rfl ?_
 refine y_st 0 hI3 rfl rfl rfl rfl Tryd.sizeOf38 rfl rfl (one1 rfl (one1 rfl (one1 rfl (one1 (RdS.oneC f_by__0) one0)))) ?_
 intro w5 hI6 x7
 refine Reg.nil (cw_ret ?_)
 obtain rfl := Option.some.inj h
 refine fin_any Tryd.results28 (AllRs.cons (RsOk.agg rfl (hI6.row 0 rfl).rd.cells Tryd.isAgg38 rfl Tryd.sizeOf38) (AllRs.nil)) rfl ?_
 exact ⟨_, rfl, f_known_0, f_cents_0, f_since_0, ((f_by__0.adv hI6.adv).adv hI6.baseH), hI6.kp⟩
noncomputable def P.law03_alive  : Option Bool :=
  Option.bind (P.law03_reports ) fun z1 => Option.bind (P.account_State z1 5 20 25) fun (z10, z11) => Option.bind (P.law03_reports ) fun z59 => Option.bind (P.account_State z59 5 30 35) fun (z68, z69) => Option.bind (P.law03_reports ) fun z117 => Option.bind (P.account_State z117 5 60 60) fun (z126, z127) => Option.bind (P.law03_reports ) fun z175 => Option.bind (P.account_Fate z175 4 45) fun (z182, z183, z184) => Option.bind (P.law03_reports ) fun z192 => Option.bind (P.account_Clashes z192 5 60) fun (z201, z202) => Option.bind (P.law03_reports ) fun z210 => Option.bind (P.account_Standing z210 45) fun (z219, z220) => Option.bind (P.law03_told 2 0 8 ([1] : List Int)) fun z234 => Option.bind (cond (decide (z11 = 0)) (Option.bind (P.law03_told 1 0 15 ([2, 3] : List Int)) fun z263 => Option.bind (P.ref03_SameState (State.mk (Told.mk z10.opened.known z10.opened.cents z10.opened.since z10.opened.by_) (Told.mk z10.limit.known z10.limit.cents z10.limit.since z10.limit.by_) (Told.mk z10.owed.known z10.owed.cents z10.owed.since z10.owed.by_) (Told.mk z10.late.known z10.late.cents z10.late.since z10.late.by_) (Told.mk z10.default.known z10.default.cents z10.default.since z10.default.by_) (Told.mk z10.closed.known z10.closed.cents z10.closed.since z10.closed.by_) (Span.mk z10.paid.lo z10.paid.hi) z10.is_) (State.mk (Told.mk z234.known z234.cents z234.since z234.by_) (Told.mk 0 0 0 []) (Told.mk z263.known z263.cents z263.since z263.by_) (Told.mk 0 0 0 []) (Told.mk 0 0 0 []) (Told.mk 0 0 0 []) (Span.mk 0 0) 1)) fun z324 => cond z324 (cond (decide (z69 = 0)) (Option.bind (P.law03_told 1 0 15 ([2, 3] : List Int)) fun z341 => Option.bind (P.law03_told 2 35 29 ([4] : List Int)) fun z361 => Option.bind (P.ref03_SameState (State.mk (Told.mk z68.opened.known z68.opened.cents z68.opened.since z68.opened.by_) (Told.mk z68.limit.known z68.limit.cents z68.limit.since z68.limit.by_) (Told.mk z68.owed.known z68.owed.cents z68.owed.since z68.owed.by_) (Told.mk z68.late.known z68.late.cents z68.late.since z68.late.by_) (Told.mk z68.default.known z68.default.cents z68.default.since z68.default.by_) (Told.mk z68.closed.known z68.closed.cents z68.closed.since z68.closed.by_) (Span.mk z68.paid.lo z68.paid.hi) z68.is_) (State.mk (Told.mk z234.known z234.cents z234.since z234.by_) (Told.mk 0 0 0 []) (Told.mk z341.known z341.cents z341.since z341.by_) (Told.mk z361.known z361.cents z361.since z361.by_) (Told.mk 0 0 0 []) (Told.mk 0 0 0 []) (Span.mk 0 0) 2)) fun z432 => cond z432 (cond (decide (z127 = 0)) (Option.bind (P.law03_told 2 520 15 ([2, 3] : List Int)) fun z449 => Option.bind (P.ref03_SameState (State.mk (Told.mk z126.opened.known z126.opened.cents z126.opened.since z126.opened.by_) (Told.mk z126.limit.known z126.limit.cents z126.limit.since z126.limit.by_) (Told.mk z126.owed.known z126.owed.cents z126.owed.since z126.owed.by_) (Told.mk z126.late.known z126.late.cents z126.late.since z126.late.by_) (Told.mk z126.default.known z126.default.cents z126.default.since z126.default.by_) (Told.mk z126.closed.known z126.closed.cents z126.closed.since z126.closed.by_) (Span.mk z126.paid.lo z126.paid.hi) z126.is_) (State.mk (Told.mk z234.known z234.cents z234.since z234.by_) (Told.mk 0 0 0 []) (Told.mk z449.known z449.cents z449.since z449.by_) (Told.mk 0 0 0 []) (Told.mk 0 0 0 []) (Told.mk 0 0 0 []) (Span.mk 100 130) 1)) fun z510 => cond z510 (cond (decide (z184 = 0)) (cond (decide (z182 = 2)) (cond (decide (z183 = 6)) (cond (decide (z202 = 0)) (Option.bind (P.ref03_SameClashes z201 ([(Clash.mk 4 45 ([7, 8, 9] : List Int))] : List Clash)) fun z550 => cond z550 (cond (decide (z220 = 0)) (cond (decide ((z219.length : Int) = 3)) (Option.bind (ixo z219 1) fun y559 => Option.bind (P.law03_rep 2 70 20 3 15 520 0) fun z573 => some (decide (y559 = z573))) (some false)) (some false)) (some false)) (some false)) (some false)) (some false)) (some false)) (some false)) (some false)) (some false)) (some false)) (some false)) (some false)) fun x627 => some x627
theorem C_law03_alive {M : List Nat} {w : World} (hM : MLt M w) (hG : RdC M w 0 0 (glob0.map (Value.int .i64)))  {r0 : Bool} (h : P.law03_alive  = some r0) :
  Calls Tryd.prog 26 (List.toArray []) w fun e w' => e = .returned (Value.bool r0) ∧ Ext w w' := by
 have hI := Hp.start (Mu := []) hM
 refine calls_cw Tryd.func26 rfl Tryd.ntmps26 rfl ?_
 refine cw_seq (cw_regF (s_as rfl rfl (Reg.nil (cw_seq (cw_regF ?_)))))
 obtain ⟨z1, hz2, h⟩ := bnd h
 refine s_call rfl Tryd.call27 rfl ((C_law03_reports hI.mlt hz2).mono ?_)
 rintro _ w3 ⟨v5, rfl, hf6, e4⟩
 refine ⟨_, rfl, ?_⟩
 have hI7 := hI.addOwn e4 hf6
 have hf8 := hI7.freeze 0 rfl
 have hI9 := hI7.erase 0
 obtain ⟨⟨z10, z11⟩, hz12, h⟩ := bnd h
 refine s_call rfl Tryd.call20 rfl ?_
 refine (C_account_State hI9.mlt (hG.adv hI9.adv) hf8 (by decide) (by decide) (by decide) hz12).mono ?_
 rintro _ w13 ⟨v18, v23, v28, v33, v38, v43, rfl, r15, r16, r17, hf19, r20, r21, r22, hf24, r25, r26, r27, hf29, r30, r31, r32, hf34, r35, r36, r37, hf39, r40, r41, r42, hf44, r45, r46, r47, r48, e14⟩
 refine ⟨_, rfl, ?_⟩
 have hI49 := hI9.ext e14
 refine s_mv rfl rfl (s_xt rfl rfl rfl (s_xt rfl rfl rfl (y_al hI49 Tryd.zeroValue42 rfl rfl ?_)))
 intro b50 w51 hI52 x53
 refine y_st 0 hI52 rfl rfl rfl rfl Tryd.sizeOf42 rfl rfl (one1 rfl (one1 rfl (one1 rfl (one1 (RdS.oneC hf19) (one1 rfl (one1 rfl (one1 rfl (one1 (RdS.oneC hf24) (one1 rfl (one1 rfl (one1 rfl (one1 (RdS.oneC hf29) (one1 rfl (one1 rfl (one1 rfl (one1 (RdS.oneC hf34) (one1 rfl (one1 rfl (one1 rfl (one1 (RdS.oneC hf39) (one1 rfl (one1 rfl (one1 rfl (one1 (RdS.oneC hf44) (on3 rfl rfl rfl))))))))))))))))))))))))) ?_
 intro w54 hI55 x56
 have hC58 := hI55.freezeRow 0 rfl
 have hI57 := hI55.erase 0
 refine s_as rfl rfl (Reg.nil (cw_seq (cw_regF ?_)))
 obtain ⟨z59, hz60, h⟩ := bnd h
 refine s_call rfl Tryd.call27 rfl ((C_law03_reports hI57.mlt hz60).mono ?_)
 rintro _ w61 ⟨v63, rfl, hf64, e62⟩
 refine ⟨_, rfl, ?_⟩
 have hI65 := hI57.addOwn e62 hf64
 have hf66 := hI65.freeze 0 rfl
 have hI67 := hI65.erase 0
 obtain ⟨⟨z68, z69⟩, hz70, h⟩ := bnd h
 refine s_call rfl Tryd.call20 rfl ?_
 refine (C_account_State hI67.mlt (hG.adv hI67.adv) hf66 (by decide) (by decide) (by decide) hz70).mono ?_
 rintro _ w71 ⟨v76, v81, v86, v91, v96, v101, rfl, r73, r74, r75, hf77, r78, r79, r80, hf82, r83, r84, r85, hf87, r88, r89, r90, hf92, r93, r94, r95, hf97, r98, r99, r100, hf102, r103, r104, r105, r106, e72⟩
 refine ⟨_, rfl, ?_⟩
 have hI107 := hI67.ext e72
 refine s_mv rfl rfl (s_xt rfl rfl rfl (s_xt rfl rfl rfl (y_al hI107 Tryd.zeroValue42 rfl rfl ?_)))
 intro b108 w109 hI110 x111
 refine y_st 0 hI110 rfl rfl rfl rfl Tryd.sizeOf42 rfl rfl (one1 rfl (one1 rfl (one1 rfl (one1 (RdS.oneC hf77) (one1 rfl (one1 rfl (one1 rfl (one1 (RdS.oneC hf82) (one1 rfl (one1 rfl (one1 rfl (one1 (RdS.oneC hf87) (one1 rfl (one1 rfl (one1 rfl (one1 (RdS.oneC hf92) (one1 rfl (one1 rfl (one1 rfl (one1 (RdS.oneC hf97) (one1 rfl (one1 rfl (one1 rfl (one1 (RdS.oneC hf102) (on3 rfl rfl rfl))))))))))))))))))))))))) ?_
 intro w112 hI113 x114
 have hC116 := hI113.freezeRow 0 rfl
 have hI115 := hI113.erase 0
 refine s_as rfl rfl (Reg.nil (cw_seq (cw_regF ?_)))
 obtain ⟨z117, hz118, h⟩ := bnd h
 refine s_call rfl Tryd.call27 rfl ((C_law03_reports hI115.mlt hz118).mono ?_)
 rintro _ w119 ⟨v121, rfl, hf122, e120⟩
 refine ⟨_, rfl, ?_⟩
 have hI123 := hI115.addOwn e120 hf122
 have hf124 := hI123.freeze 0 rfl
 have hI125 := hI123.erase 0
 obtain ⟨⟨z126, z127⟩, hz128, h⟩ := bnd h
 refine s_call rfl Tryd.call20 rfl ?_
 refine (C_account_State hI125.mlt (hG.adv hI125.adv) hf124 (by decide) (by decide) (by decide) hz128).mono ?_
 rintro _ w129 ⟨v134, v139, v144, v149, v154, v159, rfl, r131, r132, r133, hf135, r136, r137, r138, hf140, r141, r142, r143, hf145, r146, r147, r148, hf150, r151, r152, r153, hf155, r156, r157, r158, hf160, r161, r162, r163, r164, e130⟩
 refine ⟨_, rfl, ?_⟩
 have hI165 := hI125.ext e130
 refine s_mv rfl rfl (s_xt rfl rfl rfl (s_xt rfl rfl rfl (y_al hI165 Tryd.zeroValue42 rfl rfl ?_)))
 intro b166 w167 hI168 x169
 refine y_st 0 hI168 rfl rfl rfl rfl Tryd.sizeOf42 rfl rfl (one1 rfl (one1 rfl (one1 rfl (one1 (RdS.oneC hf135) (one1 rfl (one1 rfl (one1 rfl (one1 (RdS.oneC hf140) (one1 rfl (one1 rfl (one1 rfl (one1 (RdS.oneC hf145) (one1 rfl (one1 rfl (one1 rfl (one1 (RdS.oneC hf150) (one1 rfl (one1 rfl (one1 rfl (one1 (RdS.oneC hf155) (one1 rfl (one1 rfl (one1 rfl (one1 (RdS.oneC hf160) (on3 rfl rfl rfl))))))))))))))))))))))))) ?_
 intro w170 hI171 x172
 have hC174 := hI171.freezeRow 0 rfl
 have hI173 := hI171.erase 0
 refine s_as rfl rfl (Reg.nil (cw_seq (cw_regF ?_)))
 obtain ⟨z175, hz176, h⟩ := bnd h
 refine s_call rfl Tryd.call27 rfl ((C_law03_reports hI173.mlt hz176).mono ?_)
 rintro _ w177 ⟨v179, rfl, hf180, e178⟩
 refine ⟨_, rfl, ?_⟩
 have hI181 := hI173.addOwn e178 hf180
 obtain ⟨⟨z182, z183, z184⟩, hz185, h⟩ := bnd h
 refine s_call rfl Tryd.call15 rfl ?_
 refine (C_account_Fate (hI181.sel [] rfl).mlt ((hG.adv hI181.adv).adv (Hp.selA (σ := [ownR [] ReportE 61 v179 z175]) [])) (hI181.lendRd [] 0 rfl rfl) (by decide) (by decide) hz185).mono ?_
 rintro _ w186 ⟨rfl, r188, r189, r190, e187⟩
 refine ⟨_, rfl, ?_⟩
 have hI191 := hI181.ext e187
 refine s_mv rfl rfl ?_
 iterate 3 refine s_xt rfl rfl rfl ?_
 iterate 3 refine s_as rfl rfl ?_
 refine Reg.nil (cw_seq (cw_regF ?_))
 obtain ⟨z192, hz193, h⟩ := bnd h
 refine s_call rfl Tryd.call27 rfl ((C_law03_reports hI191.mlt hz193).mono ?_)
 rintro _ w194 ⟨v196, rfl, hf197, e195⟩
 refine ⟨_, rfl, ?_⟩
 have hI198 := hI191.addOwn e195 hf197
 have hf199 := hI198.freeze 0 rfl
 have hI200 := hI198.erase 0
 obtain ⟨⟨z201, z202⟩, hz203, h⟩ := bnd h
 refine s_call rfl Tryd.call22 rfl ?_
 refine (C_account_Clashes hI200.mlt (hG.adv hI200.adv) hf199 (by decide) (by decide) hz203).mono ?_
 rintro _ w204 ⟨v206, rfl, hf207, r208, e205⟩
 refine ⟨_, rfl, ?_⟩
 have hI209 := hI200.addOwn e205 hf207
 refine s_mv rfl rfl (s_xt rfl rfl rfl (s_xt rfl rfl rfl (s_as rfl rfl (s_as rfl rfl (Reg.nil (cw_seq (cw_regF ?_)))))))
 obtain ⟨z210, hz211, h⟩ := bnd h
 refine s_call rfl Tryd.call27 rfl ((C_law03_reports hI209.mlt hz211).mono ?_)
 rintro _ w212 ⟨v214, rfl, hf215, e213⟩
 refine ⟨_, rfl, ?_⟩
 have hI216 := hI209.addOwn e213 hf215
 have hf217 := hI216.freeze 0 rfl
 have hI218 := hI216.erase 0
 obtain ⟨⟨z219, z220⟩, hz221, h⟩ := bnd h
 refine s_call rfl Tryd.call13 rfl ?_
 refine (C_account_Standing hI218.mlt (hG.adv hI218.adv) hf217 (by decide) hz221).mono ?_
 rintro _ w222 ⟨v224, rfl, hf225, r226, e223⟩
 refine ⟨_, rfl, ?_⟩
 have hI227 := hI218.addOwn e223 hf225
 refine s_mv rfl rfl (s_xt rfl rfl rfl (s_xt rfl rfl rfl (s_as rfl rfl (s_as rfl rfl (Reg.nil (cw_seq (cw_regF ?_)))))))
 refine y_bs (E := (intE .i64)) (xs := [1]) sl36 hI227 rfl rfl (Cls.cons rfl Cls.nil) (Chs.cons ⟨rfl, (by decide)⟩ Chs.nil) rfl rfl ?_
 intro v228 w229 hI230 x231
 have hf232 := hI230.freeze 0 rfl
 have hI233 := hI230.erase 0
 obtain ⟨z234, hz235, h⟩ := bnd h
 refine s_call rfl Tryd.call28 rfl ?_
 refine (C_law03_told hI233.mlt (by decide) (by decide) (by decide) hf232 hz235).mono ?_
 rintro _ w236 ⟨v241, rfl, r238, r239, r240, hf242, e237⟩
 refine ⟨_, rfl, ?_⟩
 have hI243 := hI233.ext e237
 refine y_al hI243 Tryd.zeroValue38 rfl rfl ?_
 intro b244 w245 hI246 x247
 refine y_st 0 hI246 rfl rfl rfl rfl Tryd.sizeOf38 rfl rfl (one1 rfl (one1 rfl (one1 rfl (one1 (RdS.oneC hf242) one0)))) ?_
 intro w248 hI249 x250
 have hC252 := hI249.freezeRow 0 rfl
 have hI251 := hI249.erase 0
 refine Reg.nil ?_
 obtain ⟨j253, h254, h⟩ := bnd h
 refine cw_sub (L := [(1, _), (2, _), (3, _), (4, _), (5, _), (6, _), (7, _), (8, _), (9, _), (10, _), (11, _), (12, _), (13, _), (14, _)]) (Sub.cons rfl (Sub.cons rfl (sb12 rfl rfl rfl rfl rfl rfl rfl rfl rfl rfl rfl rfl))) (cw_seqD 14 (ι := Bool) (fun x255 => [(0, Value.bool x255)]) (fun x255 => fun w256 => Hp w [] M [ownR [] ReportE 61 v224 z219, ownR [] ClashE 55 v206 z201, ownR [] ReportE 61 v179 z175] w256 ∧ Adv (mm [ownR [] ReportE 61 v224 z219, ownR [] ClashE 55 v206 z201, ownR [] ReportE 61 v179 z175] M) (mm [ownR [] ReportE 61 v224 z219, ownR [] ClashE 55 v206 z201, ownR [] ReportE 61 v179 z175] M) w248 w256 ∧ x255 = j253) ?_ ?_)
 ·refine cw_regD [0, 1, 2, 3, 4, 5, 6, 7, 8, 9, 10, 11, 12, 13, 14, 15, 16, 17, 18, 19, 20, 21, 22, 23, 24, 25, 26, 27, 28, 29, 30, 31, 32, 33, 34, 35, 36, 37, 38, 39, 40, 41, 42, 43, 44, 45, 46, 47, 48, 49, 50, 51, 52, 53, 54, 55, 56, 57, 58, 59, 60, 61, 62, 63, 64, 65, 66, 67, 68, 69, 70, 71, 72, 73, 74, 75, 76] [] fol (by kernel_rfl) rfl rfl ?_
  refine s_mv rfl rfl (s_eql rfl rfl rfl (s_mv rfl rfl (Reg.gsplit (t := 50) rfl (fun hg259 => ?_) (fun hg259 => ?_))))
  ·replace h254 := cdT hg259 h254
   refine Reg.take rfl rfl (s_lda rfl (hC58.adv ((hI57.addOwnA e62 hf64).trans ((hI65.eraseH 0).trans ((Adv.of_ext e72).trans (x111.trans (x114.trans ((hI113.eraseH 0).trans ((hI115.addOwnA e120 hf122).trans ((hI123.eraseH 0).trans ((Adv.of_ext e130).trans (x169.trans (x172.trans ((hI171.eraseH 0).trans ((hI173.addOwnA e178 hf180).trans ((Adv.of_ext e187).trans ((hI191.addOwnA e195 hf197).trans ((hI198.eraseH 0).trans ((hI200.addOwnA e205 hf207).trans ((hI209.addOwnA e213 hf215).trans ((hI216.eraseH 0).trans ((hI218.addOwnA e223 hf225).trans (x231.trans ((hI230.eraseH 0).trans ((Adv.of_ext e237).trans (x247.trans (x250.trans (hI249.eraseH 0))))))))))))))))))))))))))).cells Tryd.isAgg42 rfl Tryd.sizeOf42 rfl (Reg.take rfl rfl (s_lda rfl hC252.cells Tryd.isAgg38 rfl Tryd.sizeOf38 rfl (Reg.take rfl rfl (Reg.rel (.p fun v w' => RdS (intE .i64) (mm [ownR [] ReportE 61 v224 z219, ownR [] ClashE 55 v206 z201, ownR [] ReportE 61 v179 z175] M) w' v ([2, 3] : List Int)) [] rfl rfl rfl RSub.nil rfl (nodupB_spec rfl) ?_ (fun v w1 w2 e h => h.adv (Adv.of_ext e)) ?_)))))
   ·intro w260 e261; simp only [relOut]; refine s_bs (E := (intE .i64)) (M := mm [ownR [] ReportE 61 v224 z219, ownR [] ClashE 55 v206 z201, ownR [] ReportE 61 v179 z175] M) (Bb := 0) (xs := ([2, 3] : List Int)) sl36 rfl rfl (Cls.cons rfl (Cls.cons rfl Cls.nil)) (Chs.cons ⟨rfl, (by decide)⟩ (Chs.cons ⟨rfl, (by decide)⟩ Chs.nil)) (hI251.mlt.ext e261) (Nat.zero_le _) rfl rfl ?_; intro a262 w263 x264 _ h265 _; exact Reg.nil ⟨rfl, x264, _, rfl, h265, trivial⟩
   refine Reg.take rfl rfl ?_
   obtain ⟨z269, hz269, h254⟩ := bnd h254
   refine Reg.rel (.p fun v w' => ∃ cs : List Value, v = Value.agg (List.toArray cs) ∧ ToldE.R (mm [ownR [] ReportE 61 v224 z219, ownR [] ClashE 55 v206 z201, ownR [] ReportE 61 v179 z175] M) w' cs z269) [(53, _)] rfl rfl rfl (RSub.cons rfl rfl RSub.nil) rfl (nodupB_spec rfl) ?_ (fun v w1 w2 e h => ⟨h.choose, h.choose_spec.1, ToldE.kp e.kp h.choose_spec.2⟩) ?_
   ·intro w270 e271; simp only [relOut]; intro u266 k267 s268; refine s_call rfl Tryd.call28 rfl ?_; refine (C_law03_told (hI251.mlt.ext e271) (by decide) (by decide) (by decide) k267 hz269).mono ?_; rintro _ w272 ⟨v278, rfl, r275, r276, r277, hf279, x273⟩; refine ⟨_, rfl, ?_⟩; exact Reg.nil ⟨rfl, x273, _, rfl, ⟨_, rfl, (ToldE_R (x := z269)).2 ⟨_, rfl, r275, r276, r277, hf279⟩⟩, trivial⟩
   refine Reg.take rfl rfl (Reg.rel (.p fun v w' => ∃ cs : List Value, v = Value.agg (List.toArray cs) ∧ StateE.R (mm [ownR [] ReportE 61 v224 z219, ownR [] ClashE 55 v206 z201, ownR [] ReportE 61 v179 z175] M) w' cs (State.mk (Told.mk z234.known z234.cents z234.since z234.by_) (Told.mk 0 0 0 []) (Told.mk z269.known z269.cents z269.since z269.by_) (Told.mk 0 0 0 []) (Told.mk 0 0 0 []) (Told.mk 0 0 0 []) (Span.mk 0 0) 1)) [(54, _)] rfl rfl rfl (RSub.cons rfl rfl RSub.nil) rfl (nodupB_spec rfl) ?_ (fun v w1 w2 e h => ⟨h.choose, h.choose_spec.1, StateE.kp e.kp h.choose_spec.2⟩) ?_)
   ·intro w290 e291; simp only [relOut]; intro u280 k281 s282; obtain ⟨cs283, rfl, hR284⟩ := k281; obtain ⟨v288, rfl, r285, r286, r287, hf289⟩ := ToldE_R.1 hR284; refine s_bd [(0, 4), (4, 4), (8, 4), (12, 4), (16, 4), (20, 4), (24, 2), (26, 1)] Tryd.zeroValue42 rfl Tryd.underlying42 (fun _ => by simp [Tryd.sizeOf38, Tryd.sizeOf40, Tryd.sizeOf5]) rfl (Cls.cons rfl (Cls.cons rfl (Cls.cons rfl (Cls.nil)))) rfl rfl ?_; exact Reg.nil ⟨rfl, Kp.refl _ _, _, rfl, ⟨_, rfl, ((StateE_R (x := (State.mk (Told.mk z234.known z234.cents z234.since z234.by_) (Told.mk 0 0 0 []) (Told.mk z269.known z269.cents z269.since z269.by_) (Told.mk 0 0 0 []) (Told.mk 0 0 0 []) (Told.mk 0 0 0 []) (Span.mk 0 0) 1))).2 ⟨_, _, _, _, _, _, rfl, r238, r239, r240, ((hf242.adv (x247.trans (x250.trans (hI249.eraseH 0)))).adv (Adv.of_ext e291)), (show InK .u8 0 by decide), (show InK .i64 0 by decide), (show InK .i64 0 by decide), (RdS.nil _ _ _), r285, r286, r287, hf289, (show InK .u8 0 by decide), (show InK .i64 0 by decide), (show InK .i64 0 by decide), (RdS.nil _ _ _), (show InK .u8 0 by decide), (show InK .i64 0 by decide), (show InK .i64 0 by decide), (RdS.nil _ _ _), (show InK .u8 0 by decide), (show InK .i64 0 by decide), (show InK .i64 0 by decide), (RdS.nil _ _ _), (show InK .i64 0 by decide), (show InK .i64 0 by decide), (show InK .u8 1 by decide)⟩)⟩, trivial⟩
   refine Reg.take rfl rfl ?_
   obtain ⟨z330, hz330, h254⟩ := bnd h254
   refine Reg.relC (.bool z330) [(55, _)] rfl rfl (RSub.cons rfl rfl RSub.nil) rfl (nodupB_spec rfl) ?_ ?_
   ·intro w331 e332; simp only [relOut]; intro u292 k293 s294; obtain ⟨cs295, rfl, hR296⟩ := k293; obtain ⟨v300, v305, v310, v315, v320, v325, rfl, r297, r298, r299, hf301, r302, r303, r304, hf306, r307, r308, r309, hf311, r312, r313, r314, hf316, r317, r318, r319, hf321, r322, r323, r324, hf326, r327, r328, r329⟩ := StateE_R.1 hR296; refine s_call rfl Tryd.call24 rfl ?_; refine (C_ref03_SameState (hI251.mlt.ext e332) r15 r16 r17 ((hf19.adv (x53.trans (x56.trans ((hI55.eraseH 0).trans ((hI57.addOwnA e62 hf64).trans ((hI65.eraseH 0).trans ((Adv.of_ext e72).trans (x111.trans (x114.trans ((hI113.eraseH 0).trans ((hI115.addOwnA e120 hf122).trans ((hI123.eraseH 0).trans ((Adv.of_ext e130).trans (x169.trans (x172.trans ((hI171.eraseH 0).trans ((hI173.addOwnA e178 hf180).trans ((Adv.of_ext e187).trans ((hI191.addOwnA e195 hf197).trans ((hI198.eraseH 0).trans ((hI200.addOwnA e205 hf207).trans ((hI209.addOwnA e213 hf215).trans ((hI216.eraseH 0).trans ((hI218.addOwnA e223 hf225).trans (x231.trans ((hI230.eraseH 0).trans ((Adv.of_ext e237).trans (x247.trans (x250.trans (hI249.eraseH 0)))))))))))))))))))))))))))))).adv (Adv.of_ext e332)) r20 r21 r22 ((hf24.adv (x53.trans (x56.trans ((hI55.eraseH 0).trans ((hI57.addOwnA e62 hf64).trans ((hI65.eraseH 0).trans ((Adv.of_ext e72).trans (x111.trans (x114.trans ((hI113.eraseH 0).trans ((hI115.addOwnA e120 hf122).trans ((hI123.eraseH 0).trans ((Adv.of_ext e130).trans (x169.trans (x172.trans ((hI171.eraseH 0).trans ((hI173.addOwnA e178 hf180).trans ((Adv.of_ext e187).trans ((hI191.addOwnA e195 hf197).trans ((hI198.eraseH 0).trans ((hI200.addOwnA e205 hf207).trans ((hI209.addOwnA e213 hf215).trans ((hI216.eraseH 0).trans ((hI218.addOwnA e223 hf225).trans (x231.trans ((hI230.eraseH 0).trans ((Adv.of_ext e237).trans (x247.trans (x250.trans (hI249.eraseH 0)))))))))))))))))))))))))))))).adv (Adv.of_ext e332)) r25 r26 r27 ((hf29.adv (x53.trans (x56.trans ((hI55.eraseH 0).trans ((hI57.addOwnA e62 hf64).trans ((hI65.eraseH 0).trans ((Adv.of_ext e72).trans (x111.trans (x114.trans ((hI113.eraseH 0).trans ((hI115.addOwnA e120 hf122).trans ((hI123.eraseH 0).trans ((Adv.of_ext e130).trans (x169.trans (x172.trans ((hI171.eraseH 0).trans ((hI173.addOwnA e178 hf180).trans ((Adv.of_ext e187).trans ((hI191.addOwnA e195 hf197).trans ((hI198.eraseH 0).trans ((hI200.addOwnA e205 hf207).trans ((hI209.addOwnA e213 hf215).trans ((hI216.eraseH 0).trans ((hI218.addOwnA e223 hf225).trans (x231.trans ((hI230.eraseH 0).trans ((Adv.of_ext e237).trans (x247.trans (x250.trans (hI249.eraseH 0)))))))))))))))))))))))))))))).adv (Adv.of_ext e332)) r30 r31 r32 ((hf34.adv (x53.trans (x56.trans ((hI55.eraseH 0).trans ((hI57.addOwnA e62 hf64).trans ((hI65.eraseH 0).trans ((Adv.of_ext e72).trans (x111.trans (x114.trans ((hI113.eraseH 0).trans ((hI115.addOwnA e120 hf122).trans ((hI123.eraseH 0).trans ((Adv.of_ext e130).trans (x169.trans (x172.trans ((hI171.eraseH 0).trans ((hI173.addOwnA e178 hf180).trans ((Adv.of_ext e187).trans ((hI191.addOwnA e195 hf197).trans ((hI198.eraseH 0).trans ((hI200.addOwnA e205 hf207).trans ((hI209.addOwnA e213 hf215).trans ((hI216.eraseH 0).trans ((hI218.addOwnA e223 hf225).trans (x231.trans ((hI230.eraseH 0).trans ((Adv.of_ext e237).trans (x247.trans (x250.trans (hI249.eraseH 0)))))))))))))))))))))))))))))).adv (Adv.of_ext e332)) r35 r36 r37 ((hf39.adv (x53.trans (x56.trans ((hI55.eraseH 0).trans ((hI57.addOwnA e62 hf64).trans ((hI65.eraseH 0).trans ((Adv.of_ext e72).trans (x111.trans (x114.trans ((hI113.eraseH 0).trans ((hI115.addOwnA e120 hf122).trans ((hI123.eraseH 0).trans ((Adv.of_ext e130).trans (x169.trans (x172.trans ((hI171.eraseH 0).trans ((hI173.addOwnA e178 hf180).trans ((Adv.of_ext e187).trans ((hI191.addOwnA e195 hf197).trans ((hI198.eraseH 0).trans ((hI200.addOwnA e205 hf207).trans ((hI209.addOwnA e213 hf215).trans ((hI216.eraseH 0).trans ((hI218.addOwnA e223 hf225).trans (x231.trans ((hI230.eraseH 0).trans ((Adv.of_ext e237).trans (x247.trans (x250.trans (hI249.eraseH 0)))))))))))))))))))))))))))))).adv (Adv.of_ext e332)) r40 r41 r42 ((hf44.adv (x53.trans (x56.trans ((hI55.eraseH 0).trans ((hI57.addOwnA e62 hf64).trans ((hI65.eraseH 0).trans ((Adv.of_ext e72).trans (x111.trans (x114.trans ((hI113.eraseH 0).trans ((hI115.addOwnA e120 hf122).trans ((hI123.eraseH 0).trans ((Adv.of_ext e130).trans (x169.trans (x172.trans ((hI171.eraseH 0).trans ((hI173.addOwnA e178 hf180).trans ((Adv.of_ext e187).trans ((hI191.addOwnA e195 hf197).trans ((hI198.eraseH 0).trans ((hI200.addOwnA e205 hf207).trans ((hI209.addOwnA e213 hf215).trans ((hI216.eraseH 0).trans ((hI218.addOwnA e223 hf225).trans (x231.trans ((hI230.eraseH 0).trans ((Adv.of_ext e237).trans (x247.trans (x250.trans (hI249.eraseH 0)))))))))))))))))))))))))))))).adv (Adv.of_ext e332)) r45 r46 r47 r297 r298 r299 hf301 r302 r303 r304 hf306 r307 r308 r309 hf311 r312 r313 r314 hf316 r317 r318 r319 hf321 r322 r323 r324 hf326 r327 r328 r329 hz330).mono ?_; rintro _ w333 ⟨rfl, x334⟩; refine ⟨_, rfl, ?_⟩; exact Reg.nil ⟨rfl, x334, _, rfl, rfl, trivial⟩
   refine s_pkT rfl rfl rfl (s_mv rfl rfl (Reg.gsplit (t := 58) rfl (fun hg336 => ?_) (fun hg336 => ?_)))
   ·replace h254 := cdT hg336 h254
    refine Reg.take rfl rfl (s_mv rfl rfl (Reg.take rfl rfl (s_eql rfl rfl rfl (s_pkT rfl rfl rfl (s_mv rfl rfl (Reg.gsplit (t := 62) rfl (fun hg337 => ?_) (fun hg337 => ?_)))))))
    ·replace h254 := cdT hg337 h254
     refine Reg.take rfl rfl (s_lda rfl (hC116.adv ((hI115.addOwnA e120 hf122).trans ((hI123.eraseH 0).trans ((Adv.of_ext e130).trans (x169.trans (x172.trans ((hI171.eraseH 0).trans ((hI173.addOwnA e178 hf180).trans ((Adv.of_ext e187).trans ((hI191.addOwnA e195 hf197).trans ((hI198.eraseH 0).trans ((hI200.addOwnA e205 hf207).trans ((hI209.addOwnA e213 hf215).trans ((hI216.eraseH 0).trans ((hI218.addOwnA e223 hf225).trans (x231.trans ((hI230.eraseH 0).trans ((Adv.of_ext e237).trans (x247.trans (x250.trans (hI249.eraseH 0))))))))))))))))))))).cells Tryd.isAgg42 rfl Tryd.sizeOf42 rfl (Reg.take rfl rfl (s_lda rfl hC252.cells Tryd.isAgg38 rfl Tryd.sizeOf38 rfl (Reg.take rfl rfl (Reg.rel (.p fun v w' => RdS (intE .i64) (mm [ownR [] ReportE 61 v224 z219, ownR [] ClashE 55 v206 z201, ownR [] ReportE 61 v179 z175] M) w' v ([2, 3] : List Int)) [] rfl rfl rfl RSub.nil rfl (nodupB_spec rfl) ?_ (fun v w1 w2 e h => h.adv (Adv.of_ext e)) ?_)))))
     ·intro w338 e339; simp only [relOut]; refine s_bs (E := (intE .i64)) (M := mm [ownR [] ReportE 61 v224 z219, ownR [] ClashE 55 v206 z201, ownR [] ReportE 61 v179 z175] M) (Bb := 0) (xs := ([2, 3] : List Int)) sl36 rfl rfl (Cls.cons rfl (Cls.cons rfl Cls.nil)) (Chs.cons ⟨rfl, (by decide)⟩ (Chs.cons ⟨rfl, (by decide)⟩ Chs.nil)) (hI251.mlt.ext e339) (Nat.zero_le _) rfl rfl ?_; intro a340 w341 x342 _ h343 _; exact Reg.nil ⟨rfl, x342, _, rfl, h343, trivial⟩
     refine Reg.take rfl rfl ?_
     obtain ⟨z347, hz347, h254⟩ := bnd h254
     refine Reg.rel (.p fun v w' => ∃ cs : List Value, v = Value.agg (List.toArray cs) ∧ ToldE.R (mm [ownR [] ReportE 61 v224 z219, ownR [] ClashE 55 v206 z201, ownR [] ReportE 61 v179 z175] M) w' cs z347) [(65, _)] rfl rfl rfl (RSub.cons rfl rfl RSub.nil) rfl (nodupB_spec rfl) ?_ (fun v w1 w2 e h => ⟨h.choose, h.choose_spec.1, ToldE.kp e.kp h.choose_spec.2⟩) ?_
     ·intro w348 e349; simp only [relOut]; intro u344 k345 s346; refine s_call rfl Tryd.call28 rfl ?_; refine (C_law03_told (hI251.mlt.ext e349) (by decide) (by decide) (by decide) k345 hz347).mono ?_; rintro _ w350 ⟨v356, rfl, r353, r354, r355, hf357, x351⟩; refine ⟨_, rfl, ?_⟩; exact Reg.nil ⟨rfl, x351, _, rfl, ⟨_, rfl, (ToldE_R (x := z347)).2 ⟨_, rfl, r353, r354, r355, hf357⟩⟩, trivial⟩
     refine Reg.take rfl rfl (Reg.rel (.p fun v w' => RdS (intE .i64) (mm [ownR [] ReportE 61 v224 z219, ownR [] ClashE 55 v206 z201, ownR [] ReportE 61 v179 z175] M) w' v ([4] : List Int)) [] rfl rfl rfl RSub.nil rfl (nodupB_spec rfl) ?_ (fun v w1 w2 e h => h.adv (Adv.of_ext e)) ?_)
     ·intro w358 e359; simp only [relOut]; refine s_bs (E := (intE .i64)) (M := mm [ownR [] ReportE 61 v224 z219, ownR [] ClashE 55 v206 z201, ownR [] ReportE 61 v179 z175] M) (Bb := 0) (xs := ([4] : List Int)) sl36 rfl rfl (Cls.cons rfl Cls.nil) (Chs.cons ⟨rfl, (by decide)⟩ Chs.nil) (hI251.mlt.ext e359) (Nat.zero_le _) rfl rfl ?_; intro a360 w361 x362 _ h363 _; exact Reg.nil ⟨rfl, x362, _, rfl, h363, trivial⟩
     refine Reg.take rfl rfl ?_
     obtain ⟨z367, hz367, h254⟩ := bnd h254
     refine Reg.rel (.p fun v w' => ∃ cs : List Value, v = Value.agg (List.toArray cs) ∧ ToldE.R (mm [ownR [] ReportE 61 v224 z219, ownR [] ClashE 55 v206 z201, ownR [] ReportE 61 v179 z175] M) w' cs z367) [(67, _)] rfl rfl rfl (RSub.cons rfl rfl RSub.nil) rfl (nodupB_spec rfl) ?_ (fun v w1 w2 e h => ⟨h.choose, h.choose_spec.1, ToldE.kp e.kp h.choose_spec.2⟩) ?_
     ·intro w368 e369; simp only [relOut]; intro u364 k365 s366; refine s_call rfl Tryd.call28 rfl ?_; refine (C_law03_told (hI251.mlt.ext e369) (by decide) (by decide) (by decide) k365 hz367).mono ?_; rintro _ w370 ⟨v376, rfl, r373, r374, r375, hf377, x371⟩; refine ⟨_, rfl, ?_⟩; exact Reg.nil ⟨rfl, x371, _, rfl, ⟨_, rfl, (ToldE_R (x := z367)).2 ⟨_, rfl, r373, r374, r375, hf377⟩⟩, trivial⟩
     refine Reg.take rfl rfl (Reg.rel (.p fun v w' => ∃ cs : List Value, v = Value.agg (List.toArray cs) ∧ StateE.R (mm [ownR [] ReportE 61 v224 z219, ownR [] ClashE 55 v206 z201, ownR [] ReportE 61 v179 z175] M) w' cs (State.mk (Told.mk z234.known z234.cents z234.since z234.by_) (Told.mk 0 0 0 []) (Told.mk z347.known z347.cents z347.since z347.by_) (Told.mk z367.known z367.cents z367.since z367.by_) (Told.mk 0 0 0 []) (Told.mk 0 0 0 []) (Span.mk 0 0) 2)) [(66, _), (68, _)] rfl rfl rfl (RSub.cons rfl rfl (RSub.cons rfl rfl RSub.nil)) rfl (nodupB_spec rfl) ?_ (fun v w1 w2 e h => ⟨h.choose, h.choose_spec.1, StateE.kp e.kp h.choose_spec.2⟩) ?_)
     ·intro w398 e399; simp only [relOut]; intro u378 k379 s380; obtain ⟨cs381, rfl, hR382⟩ := k379; obtain ⟨v386, rfl, r383, r384, r385, hf387⟩ := ToldE_R.1 hR382; intro u388 k389 s390; obtain ⟨cs391, rfl, hR392⟩ := k389; obtain ⟨v396, rfl, r393, r394, r395, hf397⟩ := ToldE_R.1 hR392; refine s_bd [(0, 4), (4, 4), (8, 4), (12, 4), (16, 4), (20, 4), (24, 2), (26, 1)] Tryd.zeroValue42 rfl Tryd.underlying42 (fun _ => by simp [Tryd.sizeOf38, Tryd.sizeOf40, Tryd.sizeOf5]) rfl (Cls.cons rfl (Cls.cons rfl (Cls.cons rfl (Cls.cons rfl (Cls.nil))))) rfl rfl ?_; exact Reg.nil ⟨rfl, Kp.refl _ _, _, rfl, ⟨_, rfl, ((StateE_R (x := (State.mk (Told.mk z234.known z234.cents z234.since z234.by_) (Told.mk 0 0 0 []) (Told.mk z347.known z347.cents z347.since z347.by_) (Told.mk z367.known z367.cents z367.since z367.by_) (Told.mk 0 0 0 []) (Told.mk 0 0 0 []) (Span.mk 0 0) 2))).2 ⟨_, _, _, _, _, _, rfl, r238, r239, r240, ((hf242.adv (x247.trans (x250.trans (hI249.eraseH 0)))).adv (Adv.of_ext e399)), (show InK .u8 0 by decide), (show InK .i64 0 by decide), (show InK .i64 0 by decide), (RdS.nil _ _ _), r383, r384, r385, hf387, r393, r394, r395, hf397, (show InK .u8 0 by decide), (show InK .i64 0 by decide), (show InK .i64 0 by decide), (RdS.nil _ _ _), (show InK .u8 0 by decide), (show InK .i64 0 by decide), (show InK .i64 0 by decide), (RdS.nil _ _ _), (show InK .i64 0 by decide), (show InK .i64 0 by decide), (show InK .u8 2 by decide)⟩)⟩, trivial⟩
     refine Reg.take rfl rfl ?_
     obtain ⟨z438, hz438, h254⟩ := bnd h254
     refine Reg.relC (.bool z438) [(69, _)] rfl rfl (RSub.cons rfl rfl RSub.nil) rfl (nodupB_spec rfl) ?_ ?_
     ·intro w439 e440; simp only [relOut]; intro u400 k401 s402; obtain ⟨cs403, rfl, hR404⟩ := k401; obtain ⟨v408, v413, v418, v423, v428, v433, rfl, r405, r406, r407, hf409, r410, r411, r412, hf414, r415, r416, r417, hf419, r420, r421, r422, hf424, r425, r426, r427, hf429, r430, r431, r432, hf434, r435, r436, r437⟩ := StateE_R.1 hR404; refine s_call rfl Tryd.call24 rfl ?_; refine (C_ref03_SameState (hI251.mlt.ext e440) r73 r74 r75 ((hf77.adv (x111.trans (x114.trans ((hI113.eraseH 0).trans ((hI115.addOwnA e120 hf122).trans ((hI123.eraseH 0).trans ((Adv.of_ext e130).trans (x169.trans (x172.trans ((hI171.eraseH 0).trans ((hI173.addOwnA e178 hf180).trans ((Adv.of_ext e187).trans ((hI191.addOwnA e195 hf197).trans ((hI198.eraseH 0).trans ((hI200.addOwnA e205 hf207).trans ((hI209.addOwnA e213 hf215).trans ((hI216.eraseH 0).trans ((hI218.addOwnA e223 hf225).trans (x231.trans ((hI230.eraseH 0).trans ((Adv.of_ext e237).trans (x247.trans (x250.trans (hI249.eraseH 0)))))))))))))))))))))))).adv (Adv.of_ext e440)) r78 r79 r80 ((hf82.adv (x111.trans (x114.trans ((hI113.eraseH 0).trans ((hI115.addOwnA e120 hf122).trans ((hI123.eraseH 0).trans ((Adv.of_ext e130).trans (x169.trans (x172.trans ((hI171.eraseH 0).trans ((hI173.addOwnA e178 hf180).trans ((Adv.of_ext e187).trans ((hI191.addOwnA e195 hf197).trans ((hI198.eraseH 0).trans ((hI200.addOwnA e205 hf207).trans ((hI209.addOwnA e213 hf215).trans ((hI216.eraseH 0).trans ((hI218.addOwnA e223 hf225).trans (x231.trans ((hI230.eraseH 0).trans ((Adv.of_ext e237).trans (x247.trans (x250.trans (hI249.eraseH 0)))))))))))))))))))))))).adv (Adv.of_ext e440)) r83 r84 r85 ((hf87.adv (x111.trans (x114.trans ((hI113.eraseH 0).trans ((hI115.addOwnA e120 hf122).trans ((hI123.eraseH 0).trans ((Adv.of_ext e130).trans (x169.trans (x172.trans ((hI171.eraseH 0).trans ((hI173.addOwnA e178 hf180).trans ((Adv.of_ext e187).trans ((hI191.addOwnA e195 hf197).trans ((hI198.eraseH 0).trans ((hI200.addOwnA e205 hf207).trans ((hI209.addOwnA e213 hf215).trans ((hI216.eraseH 0).trans ((hI218.addOwnA e223 hf225).trans (x231.trans ((hI230.eraseH 0).trans ((Adv.of_ext e237).trans (x247.trans (x250.trans (hI249.eraseH 0)))))))))))))))))))))))).adv (Adv.of_ext e440)) r88 r89 r90 ((hf92.adv (x111.trans (x114.trans ((hI113.eraseH 0).trans ((hI115.addOwnA e120 hf122).trans ((hI123.eraseH 0).trans ((Adv.of_ext e130).trans (x169.trans (x172.trans ((hI171.eraseH 0).trans ((hI173.addOwnA e178 hf180).trans ((Adv.of_ext e187).trans ((hI191.addOwnA e195 hf197).trans ((hI198.eraseH 0).trans ((hI200.addOwnA e205 hf207).trans ((hI209.addOwnA e213 hf215).trans ((hI216.eraseH 0).trans ((hI218.addOwnA e223 hf225).trans (x231.trans ((hI230.eraseH 0).trans ((Adv.of_ext e237).trans (x247.trans (x250.trans (hI249.eraseH 0)))))))))))))))))))))))).adv (Adv.of_ext e440)) r93 r94 r95 ((hf97.adv (x111.trans (x114.trans ((hI113.eraseH 0).trans ((hI115.addOwnA e120 hf122).trans ((hI123.eraseH 0).trans ((Adv.of_ext e130).trans (x169.trans (x172.trans ((hI171.eraseH 0).trans ((hI173.addOwnA e178 hf180).trans ((Adv.of_ext e187).trans ((hI191.addOwnA e195 hf197).trans ((hI198.eraseH 0).trans ((hI200.addOwnA e205 hf207).trans ((hI209.addOwnA e213 hf215).trans ((hI216.eraseH 0).trans ((hI218.addOwnA e223 hf225).trans (x231.trans ((hI230.eraseH 0).trans ((Adv.of_ext e237).trans (x247.trans (x250.trans (hI249.eraseH 0)))))))))))))))))))))))).adv (Adv.of_ext e440)) r98 r99 r100 ((hf102.adv (x111.trans (x114.trans ((hI113.eraseH 0).trans ((hI115.addOwnA e120 hf122).trans ((hI123.eraseH 0).trans ((Adv.of_ext e130).trans (x169.trans (x172.trans ((hI171.eraseH 0).trans ((hI173.addOwnA e178 hf180).trans ((Adv.of_ext e187).trans ((hI191.addOwnA e195 hf197).trans ((hI198.eraseH 0).trans ((hI200.addOwnA e205 hf207).trans ((hI209.addOwnA e213 hf215).trans ((hI216.eraseH 0).trans ((hI218.addOwnA e223 hf225).trans (x231.trans ((hI230.eraseH 0).trans ((Adv.of_ext e237).trans (x247.trans (x250.trans (hI249.eraseH 0)))))))))))))))))))))))).adv (Adv.of_ext e440)) r103 r104 r105 r405 r406 r407 hf409 r410 r411 r412 hf414 r415 r416 r417 hf419 r420 r421 r422 hf424 r425 r426 r427 hf429 r430 r431 r432 hf434 r435 r436 r437 hz438).mono ?_; rintro _ w441 ⟨rfl, x442⟩; refine ⟨_, rfl, ?_⟩; exact Reg.nil ⟨rfl, x442, _, rfl, rfl, trivial⟩
     refine s_pkT rfl rfl rfl (s_mv rfl rfl (Reg.gsplit (t := 72) rfl (fun hg444 => ?_) (fun hg444 => ?_)))
     ·replace h254 := cdT hg444 h254
      refine Reg.take rfl rfl (s_mv rfl rfl (Reg.take rfl rfl (s_eql rfl rfl rfl (s_pkT rfl rfl rfl (s_mv rfl rfl (Reg.gsplit (t := 76) rfl (fun hg445 => ?_) (fun hg445 => ?_)))))))
      ·replace h254 := cdT hg445 h254
       refine Reg.take rfl rfl (s_lda rfl (hC174.adv ((hI173.addOwnA e178 hf180).trans ((Adv.of_ext e187).trans ((hI191.addOwnA e195 hf197).trans ((hI198.eraseH 0).trans ((hI200.addOwnA e205 hf207).trans ((hI209.addOwnA e213 hf215).trans ((hI216.eraseH 0).trans ((hI218.addOwnA e223 hf225).trans (x231.trans ((hI230.eraseH 0).trans ((Adv.of_ext e237).trans (x247.trans (x250.trans (hI249.eraseH 0))))))))))))))).cells Tryd.isAgg42 rfl Tryd.sizeOf42 rfl (Reg.take rfl rfl (s_lda rfl hC252.cells Tryd.isAgg38 rfl Tryd.sizeOf38 rfl (Reg.take rfl rfl (Reg.rel (.p fun v w' => RdS (intE .i64) (mm [ownR [] ReportE 61 v224 z219, ownR [] ClashE 55 v206 z201, ownR [] ReportE 61 v179 z175] M) w' v ([2, 3] : List Int)) [] rfl rfl rfl RSub.nil rfl (nodupB_spec rfl) ?_ (fun v w1 w2 e h => h.adv (Adv.of_ext e)) ?_)))))
       ·intro w446 e447; simp only [relOut]; refine s_bs (E := (intE .i64)) (M := mm [ownR [] ReportE 61 v224 z219, ownR [] ClashE 55 v206 z201, ownR [] ReportE 61 v179 z175] M) (Bb := 0) (xs := ([2, 3] : List Int)) sl36 rfl rfl (Cls.cons rfl (Cls.cons rfl Cls.nil)) (Chs.cons ⟨rfl, (by decide)⟩ (Chs.cons ⟨rfl, (by decide)⟩ Chs.nil)) (hI251.mlt.ext e447) (Nat.zero_le _) rfl rfl ?_; intro a448 w449 x450 _ h451 _; exact Reg.nil ⟨rfl, x450, _, rfl, h451, trivial⟩
       refine Reg.take rfl rfl ?_
       obtain ⟨z455, hz455, h254⟩ := bnd h254
       refine Reg.rel (.p fun v w' => ∃ cs : List Value, v = Value.agg (List.toArray cs) ∧ ToldE.R (mm [ownR [] ReportE 61 v224 z219, ownR [] ClashE 55 v206 z201, ownR [] ReportE 61 v179 z175] M) w' cs z455) [(79, _)] rfl rfl rfl (RSub.cons rfl rfl RSub.nil) rfl (nodupB_spec rfl) ?_ (fun v w1 w2 e h => ⟨h.choose, h.choose_spec.1, ToldE.kp e.kp h.choose_spec.2⟩) ?_
       ·intro w456 e457; simp only [relOut]; intro u452 k453 s454; refine s_call rfl Tryd.call28 rfl ?_; refine (C_law03_told (hI251.mlt.ext e457) (by decide) (by decide) (by decide) k453 hz455).mono ?_; rintro _ w458 ⟨v464, rfl, r461, r462, r463, hf465, x459⟩; refine ⟨_, rfl, ?_⟩; exact Reg.nil ⟨rfl, x459, _, rfl, ⟨_, rfl, (ToldE_R (x := z455)).2 ⟨_, rfl, r461, r462, r463, hf465⟩⟩, trivial⟩
       refine Reg.take rfl rfl ?_
       refine s_bd [(0, 1), (1, 1)] Tryd.zeroValue40 rfl Tryd.underlying40 (fun _ => by simp [Tryd.sizeOf3]) rfl (Cls.cons rfl (Cls.cons rfl (Cls.nil))) rfl rfl ?_
       refine Reg.take rfl rfl (Reg.rel (.p fun v w' => ∃ cs : List Value, v = Value.agg (List.toArray cs) ∧ StateE.R (mm [ownR [] ReportE 61 v224 z219, ownR [] ClashE 55 v206 z201, ownR [] ReportE 61 v179 z175] M) w' cs (State.mk (Told.mk z234.known z234.cents z234.since z234.by_) (Told.mk 0 0 0 []) (Told.mk z455.known z455.cents z455.since z455.by_) (Told.mk 0 0 0 []) (Told.mk 0 0 0 []) (Told.mk 0 0 0 []) (Span.mk 100 130) 1)) [(80, _)] rfl rfl rfl (RSub.cons rfl rfl RSub.nil) rfl (nodupB_spec rfl) ?_ (fun v w1 w2 e h => ⟨h.choose, h.choose_spec.1, StateE.kp e.kp h.choose_spec.2⟩) ?_)
       ·intro w476 e477; simp only [relOut]; intro u466 k467 s468; obtain ⟨cs469, rfl, hR470⟩ := k467; obtain ⟨v474, rfl, r471, r472, r473, hf475⟩ := ToldE_R.1 hR470; refine s_bd [(0, 4), (4, 4), (8, 4), (12, 4), (16, 4), (20, 4), (24, 2), (26, 1)] Tryd.zeroValue42 rfl Tryd.underlying42 (fun _ => by simp [Tryd.sizeOf38, Tryd.sizeOf40, Tryd.sizeOf5]) rfl (Cls.cons rfl (Cls.cons rfl (Cls.cons rfl (Cls.cons rfl (Cls.nil))))) rfl rfl ?_; exact Reg.nil ⟨rfl, Kp.refl _ _, _, rfl, ⟨_, rfl, ((StateE_R (x := (State.mk (Told.mk z234.known z234.cents z234.since z234.by_) (Told.mk 0 0 0 []) (Told.mk z455.known z455.cents z455.since z455.by_) (Told.mk 0 0 0 []) (Told.mk 0 0 0 []) (Told.mk 0 0 0 []) (Span.mk 100 130) 1))).2 ⟨_, _, _, _, _, _, rfl, r238, r239, r240, ((hf242.adv (x247.trans (x250.trans (hI249.eraseH 0)))).adv (Adv.of_ext e477)), (show InK .u8 0 by decide), (show InK .i64 0 by decide), (show InK .i64 0 by decide), (RdS.nil _ _ _), r471, r472, r473, hf475, (show InK .u8 0 by decide), (show InK .i64 0 by decide), (show InK .i64 0 by decide), (RdS.nil _ _ _), (show InK .u8 0 by decide), (show InK .i64 0 by decide), (show InK .i64 0 by decide), (RdS.nil _ _ _), (show InK .u8 0 by decide), (show InK .i64 0 by decide), (show InK .i64 0 by decide), (RdS.nil _ _ _), (show InK .i64 100 by decide), (show InK .i64 130 by decide), (show InK .u8 1 by decide)⟩)⟩, trivial⟩
       refine Reg.take rfl rfl ?_
       obtain ⟨z516, hz516, h254⟩ := bnd h254
       refine Reg.relC (.bool z516) [(82, _)] rfl rfl (RSub.cons rfl rfl RSub.nil) rfl (nodupB_spec rfl) ?_ ?_
       ·intro w517 e518; simp only [relOut]; intro u478 k479 s480; obtain ⟨cs481, rfl, hR482⟩ := k479; obtain ⟨v486, v491, v496, v501, v506, v511, rfl, r483, r484, r485, hf487, r488, r489, r490, hf492, r493, r494, r495, hf497, r498, r499, r500, hf502, r503, r504, r505, hf507, r508, r509, r510, hf512, r513, r514, r515⟩ := StateE_R.1 hR482; refine s_call rfl Tryd.call24 rfl ?_; refine (C_ref03_SameState (hI251.mlt.ext e518) r131 r132 r133 ((hf135.adv (x169.trans (x172.trans ((hI171.eraseH 0).trans ((hI173.addOwnA e178 hf180).trans ((Adv.of_ext e187).trans ((hI191.addOwnA e195 hf197).trans ((hI198.eraseH 0).trans ((hI200.addOwnA e205 hf207).trans ((hI209.addOwnA e213 hf215).trans ((hI216.eraseH 0).trans ((hI218.addOwnA e223 hf225).trans (x231.trans ((hI230.eraseH 0).trans ((Adv.of_ext e237).trans (x247.trans (x250.trans (hI249.eraseH 0)))))))))))))))))).adv (Adv.of_ext e518)) r136 r137 r138 ((hf140.adv (x169.trans (x172.trans ((hI171.eraseH 0).trans ((hI173.addOwnA e178 hf180).trans ((Adv.of_ext e187).trans ((hI191.addOwnA e195 hf197).trans ((hI198.eraseH 0).trans ((hI200.addOwnA e205 hf207).trans ((hI209.addOwnA e213 hf215).trans ((hI216.eraseH 0).trans ((hI218.addOwnA e223 hf225).trans (x231.trans ((hI230.eraseH 0).trans ((Adv.of_ext e237).trans (x247.trans (x250.trans (hI249.eraseH 0)))))))))))))))))).adv (Adv.of_ext e518)) r141 r142 r143 ((hf145.adv (x169.trans (x172.trans ((hI171.eraseH 0).trans ((hI173.addOwnA e178 hf180).trans ((Adv.of_ext e187).trans ((hI191.addOwnA e195 hf197).trans ((hI198.eraseH 0).trans ((hI200.addOwnA e205 hf207).trans ((hI209.addOwnA e213 hf215).trans ((hI216.eraseH 0).trans ((hI218.addOwnA e223 hf225).trans (x231.trans ((hI230.eraseH 0).trans ((Adv.of_ext e237).trans (x247.trans (x250.trans (hI249.eraseH 0)))))))))))))))))).adv (Adv.of_ext e518)) r146 r147 r148 ((hf150.adv (x169.trans (x172.trans ((hI171.eraseH 0).trans ((hI173.addOwnA e178 hf180).trans ((Adv.of_ext e187).trans ((hI191.addOwnA e195 hf197).trans ((hI198.eraseH 0).trans ((hI200.addOwnA e205 hf207).trans ((hI209.addOwnA e213 hf215).trans ((hI216.eraseH 0).trans ((hI218.addOwnA e223 hf225).trans (x231.trans ((hI230.eraseH 0).trans ((Adv.of_ext e237).trans (x247.trans (x250.trans (hI249.eraseH 0)))))))))))))))))).adv (Adv.of_ext e518)) r151 r152 r153 ((hf155.adv (x169.trans (x172.trans ((hI171.eraseH 0).trans ((hI173.addOwnA e178 hf180).trans ((Adv.of_ext e187).trans ((hI191.addOwnA e195 hf197).trans ((hI198.eraseH 0).trans ((hI200.addOwnA e205 hf207).trans ((hI209.addOwnA e213 hf215).trans ((hI216.eraseH 0).trans ((hI218.addOwnA e223 hf225).trans (x231.trans ((hI230.eraseH 0).trans ((Adv.of_ext e237).trans (x247.trans (x250.trans (hI249.eraseH 0)))))))))))))))))).adv (Adv.of_ext e518)) r156 r157 r158 ((hf160.adv (x169.trans (x172.trans ((hI171.eraseH 0).trans ((hI173.addOwnA e178 hf180).trans ((Adv.of_ext e187).trans ((hI191.addOwnA e195 hf197).trans ((hI198.eraseH 0).trans ((hI200.addOwnA e205 hf207).trans ((hI209.addOwnA e213 hf215).trans ((hI216.eraseH 0).trans ((hI218.addOwnA e223 hf225).trans (x231.trans ((hI230.eraseH 0).trans ((Adv.of_ext e237).trans (x247.trans (x250.trans (hI249.eraseH 0)))))))))))))))))).adv (Adv.of_ext e518)) r161 r162 r163 r483 r484 r485 hf487 r488 r489 r490 hf492 r493 r494 r495 hf497 r498 r499 r500 hf502 r503 r504 r505 hf507 r508 r509 r510 hf512 r513 r514 r515 hz516).mono ?_; rintro _ w519 ⟨rfl, x520⟩; refine ⟨_, rfl, ?_⟩; exact Reg.nil ⟨rfl, x520, _, rfl, rfl, trivial⟩
       refine s_pkT rfl rfl rfl (s_mv rfl rfl (Reg.gsplit (t := 85) rfl (fun hg522 => ?_) (fun hg522 => ?_)))
       ·replace h254 := cdT hg522 h254
        refine Reg.take rfl rfl (s_mv rfl rfl (Reg.take rfl rfl (s_eql rfl rfl rfl (s_pkT rfl rfl rfl (s_mv rfl rfl (Reg.gsplit (t := 89) rfl (fun hg523 => ?_) (fun hg523 => ?_)))))))
        ·replace h254 := cdT hg523 h254
         refine Reg.take rfl rfl (s_mv rfl rfl (Reg.take rfl rfl (s_eql rfl rfl rfl (s_pkT rfl rfl rfl (s_mv rfl rfl (Reg.gsplit (t := 93) rfl (fun hg524 => ?_) (fun hg524 => ?_)))))))
         ·replace h254 := cdT hg524 h254
          refine Reg.take rfl rfl (s_mv rfl rfl (Reg.take rfl rfl (s_eql rfl rfl rfl (s_pkT rfl rfl rfl (s_mv rfl rfl (Reg.gsplit (t := 97) rfl (fun hg525 => ?_) (fun hg525 => ?_)))))))
          ·replace h254 := cdT hg525 h254
           refine Reg.take rfl rfl (s_mv rfl rfl (Reg.take rfl rfl (s_eql rfl rfl rfl (s_pkT rfl rfl rfl (s_mv rfl rfl (Reg.gsplit (t := 101) rfl (fun hg526 => ?_) (fun hg526 => ?_)))))))
           ·replace h254 := cdT hg526 h254
            refine Reg.take rfl rfl (s_mv rfl rfl (Reg.take rfl rfl (Reg.rel (.p fun v w' => RdS (intE .i64) (mm [ownR [] ReportE 61 v224 z219, ownR [] ClashE 55 v206 z201, ownR [] ReportE 61 v179 z175] M) w' v ([7, 8, 9] : List Int)) [] rfl rfl rfl RSub.nil rfl (nodupB_spec rfl) ?_ (fun v w1 w2 e h => h.adv (Adv.of_ext e)) ?_)))
            ·intro w527 e528; simp only [relOut]; refine s_bs (E := (intE .i64)) (M := mm [ownR [] ReportE 61 v224 z219, ownR [] ClashE 55 v206 z201, ownR [] ReportE 61 v179 z175] M) (Bb := 0) (xs := ([7, 8, 9] : List Int)) sl36 rfl rfl (Cls.cons rfl (Cls.cons rfl (Cls.cons rfl Cls.nil))) (Chs.cons ⟨rfl, (by decide)⟩ (Chs.cons ⟨rfl, (by decide)⟩ (Chs.cons ⟨rfl, (by decide)⟩ Chs.nil))) (hI251.mlt.ext e528) (Nat.zero_le _) rfl rfl ?_; intro a529 w530 x531 _ h532 _; exact Reg.nil ⟨rfl, x531, _, rfl, h532, trivial⟩
            refine Reg.take rfl rfl (Reg.rel (.p fun v w' => ∃ cs : List Value, v = Value.agg (List.toArray cs) ∧ ClashE.R (mm [ownR [] ReportE 61 v224 z219, ownR [] ClashE 55 v206 z201, ownR [] ReportE 61 v179 z175] M) w' cs (Clash.mk 4 45 ([7, 8, 9] : List Int))) [(103, _)] rfl rfl rfl (RSub.cons rfl rfl RSub.nil) rfl (nodupB_spec rfl) ?_ (fun v w1 w2 e h => ⟨h.choose, h.choose_spec.1, ClashE.kp e.kp h.choose_spec.2⟩) ?_)
            ·intro w536 e537; simp only [relOut]; intro u533 k534 s535; refine s_bd [(0, 1), (1, 1), (2, 1)] Tryd.zeroValue55 rfl Tryd.underlying55 (fun _ => by simp [Tryd.sizeOf3, Tryd.sizeOf36, Tryd.sizeOf5]) rfl (Cls.cons rfl (Cls.cons rfl (Cls.cons (RdS.cells1 k534) (Cls.nil)))) rfl rfl ?_; exact Reg.nil ⟨rfl, Kp.refl _ _, _, rfl, ⟨_, rfl, ((ClashE_R (x := (Clash.mk 4 45 ([7, 8, 9] : List Int)))).2 ⟨_, rfl, (show InK .u8 4 by decide), (show InK .i64 45 by decide), k534⟩)⟩, trivial⟩
            refine Reg.take rfl rfl (Reg.rel (.p fun v w' => RdS ClashE (mm [ownR [] ReportE 61 v224 z219, ownR [] ClashE 55 v206 z201, ownR [] ReportE 61 v179 z175] M) w' v ([(Clash.mk 4 45 ([7, 8, 9] : List Int))] : List Clash)) [(104, _)] rfl rfl rfl (RSub.cons rfl rfl RSub.nil) rfl (nodupB_spec rfl) ?_ (fun v w1 w2 e h => h.adv (Adv.of_ext e)) ?_)
            ·intro w547 e548; simp only [relOut]; intro u538 k539 s540; obtain ⟨cs541, rfl, hR542⟩ := k539; obtain ⟨v545, rfl, r543, r544, hf546⟩ := ClashE_R.1 hR542; refine s_bs (E := ClashE) (M := mm [ownR [] ReportE 61 v224 z219, ownR [] ClashE 55 v206 z201, ownR [] ReportE 61 v179 z175] M) (Bb := 0) (xs := ([(Clash.mk 4 45 ([7, 8, 9] : List Int))] : List Clash)) sl47 rfl rfl (Cls.cons rfl Cls.nil) (Chs.cons ((ClashE_R (x := (Clash.mk 4 45 ([7, 8, 9] : List Int)))).2 ⟨_, rfl, r543, r544, hf546⟩) Chs.nil) (hI251.mlt.ext e548) (Nat.zero_le _) rfl rfl ?_; intro a549 w550 x551 _ h552 _; exact Reg.nil ⟨rfl, x551, _, rfl, h552, trivial⟩
            refine Reg.take rfl rfl ?_
            obtain ⟨z556, hz556, h254⟩ := bnd h254
            refine Reg.relC (.bool z556) [(105, _)] rfl rfl (RSub.cons rfl rfl RSub.nil) rfl (nodupB_spec rfl) ?_ ?_
            ·intro w557 e558; simp only [relOut]; intro u553 k554 s555; refine s_call rfl Tryd.call25 rfl ?_; refine (C_ref03_SameClashes ((hI251.sel [0, 2] rfl).mlt.ext e558) ((hI251.lendRd [0, 2] 1 rfl rfl).adv (Adv.of_ext e558)) (k554.adv (Hp.selA (σ := [ownR [] ReportE 61 v224 z219, ownR [] ClashE 55 v206 z201, ownR [] ReportE 61 v179 z175]) [0, 2])) hz556).mono ?_; rintro _ w559 ⟨rfl, x560⟩; refine ⟨_, rfl, ?_⟩; exact Reg.nil ⟨rfl, x560, _, rfl, rfl, trivial⟩
            refine s_pkT rfl rfl rfl (s_mv rfl rfl (Reg.gsplit (t := 108) rfl (fun hg562 => ?_) (fun hg562 => ?_)))
            ·replace h254 := cdT hg562 h254
             refine Reg.take rfl rfl (s_mv rfl rfl (Reg.take rfl rfl (s_eql rfl rfl rfl (s_pkT rfl rfl rfl (s_mv rfl rfl (Reg.gsplit (t := 112) rfl (fun hg563 => ?_) (fun hg563 => ?_)))))))
             ·replace h254 := cdT hg563 h254
              refine Reg.take rfl rfl (s_mv rfl rfl (Reg.take rfl rfl (s_lenO rfl (hI251.ownAt 0 rfl) Tryd.underlying22 rfl ?_)))
              refine Reg.take rfl rfl (s_eql rfl rfl rfl (s_pkT rfl rfl rfl (s_mv rfl rfl (Reg.gsplit (t := 117) rfl (fun hg564 => ?_) (fun hg564 => ?_)))))
              ·replace h254 := cdT hg564 h254
               refine Reg.take rfl rfl (s_mv rfl rfl (Reg.take rfl rfl ?_))
               obtain ⟨y565, hy565, h254⟩ := bnd h254
               refine y_ia 0 hI251 rfl rfl rfl hy565 Tryd.underlying22 Tryd.sizeOf61 rfl ?_
               intro g566 cs567 hg568 hR569 hC570
               have khR569 := hR569
               obtain ⟨rfl, r571, r572, r573, r574, r575, r576, r577, r578⟩ := ReportE_R.1 hR569
               refine Reg.take rfl rfl (s_lda rfl hC570 Tryd.isAgg61 rfl Tryd.sizeOf61 rfl (Reg.take rfl rfl ?_))
               obtain ⟨z579, hz580, h254⟩ := bnd h254
               refine s_callq rfl rfl Tryd.call29 rfl (fun w581 e582 => (C_law03_rep (hI251.mlt.ext e582) (by decide) (by decide) (by decide) (by decide) (by decide) (by decide) (by decide) hz580).mono (fun _ _ hq => ⟨hq.1, hq.2.2.2.2.2.2.2.2.2⟩)) ?_
               have r583 := Calls.fact (C_law03_rep hI251.mlt (by decide) (by decide) (by decide) (by decide) (by decide) (by decide) (by decide) hz580) (fun _ _ hq => hq.2.1)
               have r584 := Calls.fact (C_law03_rep hI251.mlt (by decide) (by decide) (by decide) (by decide) (by decide) (by decide) (by decide) hz580) (fun _ _ hq => hq.2.2.1)
               have r585 := Calls.fact (C_law03_rep hI251.mlt (by decide) (by decide) (by decide) (by decide) (by decide) (by decide) (by decide) hz580) (fun _ _ hq => hq.2.2.2.1)
               have r586 := Calls.fact (C_law03_rep hI251.mlt (by decide) (by decide) (by decide) (by decide) (by decide) (by decide) (by decide) hz580) (fun _ _ hq => hq.2.2.2.2.1)
               have r587 := Calls.fact (C_law03_rep hI251.mlt (by decide) (by decide) (by decide) (by decide) (by decide) (by decide) (by decide) hz580) (fun _ _ hq => hq.2.2.2.2.2.1)
               have r588 := Calls.fact (C_law03_rep hI251.mlt (by decide) (by decide) (by decide) (by decide) (by decide) (by decide) (by decide) hz580) (fun _ _ hq => hq.2.2.2.2.2.2.1)
               have r589 := Calls.fact (C_law03_rep hI251.mlt (by decide) (by decide) (by decide) (by decide) (by decide) (by decide) (by decide) hz580) (fun _ _ hq => hq.2.2.2.2.2.2.2.1)
               have r590 := Calls.fact (C_law03_rep hI251.mlt (by decide) (by decide) (by decide) (by decide) (by decide) (by decide) (by decide) hz580) (fun _ _ hq => hq.2.2.2.2.2.2.2.2.1)
               refine Reg.take rfl rfl (s_eqS (Report_eq y565 z579) Tryd.eqGuardType61 rfl rfl rfl ?_)
               refine s_pkT rfl rfl rfl (s_as rfl rfl (Reg.nilF [] RSub.nil (nodupB_spec rfl) ?_))
               intro w591 e592
               refine Reg.nil ?_
               have hI593 := hI251.ext e592
               obtain rfl := Option.some.inj h254
               refine ⟨rfl, decide (y565 = z579), ⟨hI593, (Adv.of_ext e592), rfl⟩, sb1 rfl⟩
              replace h254 := cdF hg564 h254
              iterate 5 refine Reg.pass rfl rfl rfl rfl ?_
              refine s_pkF rfl rfl rfl (s_as rfl rfl (Reg.nilF [] RSub.nil (nodupB_spec rfl) ?_))
              intro w594 e595
              refine Reg.nil ?_
              have hI596 := hI251.ext e595
              obtain rfl := Option.some.inj h254
              refine ⟨rfl, false, ⟨hI596, (Adv.of_ext e595), rfl⟩, sb1 rfl⟩
             replace h254 := cdF hg563 h254
             iterate 3 refine Reg.pass rfl rfl rfl rfl ?_
             refine s_pkF rfl rfl rfl (s_mv rfl rfl ?_)
             iterate 5 refine Reg.pass rfl rfl rfl rfl ?_
             refine s_pkF rfl rfl rfl (s_as rfl rfl (Reg.nilF [] RSub.nil (nodupB_spec rfl) ?_))
             intro w597 e598
             refine Reg.nil ?_
             have hI599 := hI251.ext e598
             obtain rfl := Option.some.inj h254
             refine ⟨rfl, false, ⟨hI599, (Adv.of_ext e598), rfl⟩, sb1 rfl⟩
            replace h254 := cdF hg562 h254
            refine Reg.pass rfl rfl rfl rfl (Reg.pass rfl rfl rfl rfl (s_pkF rfl rfl rfl (s_mv rfl rfl ?_)))
            iterate 3 refine Reg.pass rfl rfl rfl rfl ?_
            refine s_pkF rfl rfl rfl (s_mv rfl rfl ?_)
            iterate 5 refine Reg.pass rfl rfl rfl rfl ?_
            refine s_pkF rfl rfl rfl (s_as rfl rfl (Reg.nilF [] RSub.nil (nodupB_spec rfl) ?_))
            intro w600 e601
            refine Reg.nil ?_
            have hI602 := hI251.ext e601
            obtain rfl := Option.some.inj h254
            refine ⟨rfl, false, ⟨hI602, (Adv.of_ext e601), rfl⟩, sb1 rfl⟩
           replace h254 := cdF hg526 h254
           iterate 5 refine Reg.pass rfl rfl rfl rfl ?_
           refine s_pkF rfl rfl rfl (s_mv rfl rfl (Reg.pass rfl rfl rfl rfl (Reg.pass rfl rfl rfl rfl (s_pkF rfl rfl rfl (s_mv rfl rfl ?_)))))
           iterate 3 refine Reg.pass rfl rfl rfl rfl ?_
           refine s_pkF rfl rfl rfl (s_mv rfl rfl ?_)
           iterate 5 refine Reg.pass rfl rfl rfl rfl ?_
           refine s_pkF rfl rfl rfl (s_as rfl rfl (Reg.nilF [] RSub.nil (nodupB_spec rfl) ?_))
           intro w603 e604
           refine Reg.nil ?_
           have hI605 := hI251.ext e604
           obtain rfl := Option.some.inj h254
           refine ⟨rfl, false, ⟨hI605, (Adv.of_ext e604), rfl⟩, sb1 rfl⟩
          replace h254 := cdF hg525 h254
          refine Reg.pass rfl rfl rfl rfl (Reg.pass rfl rfl rfl rfl (s_pkF rfl rfl rfl (s_mv rfl rfl ?_)))
          iterate 5 refine Reg.pass rfl rfl rfl rfl ?_
          refine s_pkF rfl rfl rfl (s_mv rfl rfl (Reg.pass rfl rfl rfl rfl (Reg.pass rfl rfl rfl rfl (s_pkF rfl rfl rfl (s_mv rfl rfl ?_)))))
          iterate 3 refine Reg.pass rfl rfl rfl rfl ?_
          refine s_pkF rfl rfl rfl (s_mv rfl rfl ?_)
          iterate 5 refine Reg.pass rfl rfl rfl rfl ?_
          refine s_pkF rfl rfl rfl (s_as rfl rfl (Reg.nilF [] RSub.nil (nodupB_spec rfl) ?_))
          intro w606 e607
          refine Reg.nil ?_
          have hI608 := hI251.ext e607
          obtain rfl := Option.some.inj h254
          refine ⟨rfl, false, ⟨hI608, (Adv.of_ext e607), rfl⟩, sb1 rfl⟩
         replace h254 := cdF hg524 h254
         refine Reg.pass rfl rfl rfl rfl (Reg.pass rfl rfl rfl rfl (s_pkF rfl rfl rfl (s_mv rfl rfl (Reg.pass rfl rfl rfl rfl (Reg.pass rfl rfl rfl rfl (s_pkF rfl rfl rfl (s_mv rfl rfl ?_)))))))
         iterate 5 refine Reg.pass rfl rfl rfl rfl ?_
         refine s_pkF rfl rfl rfl (s_mv rfl rfl (Reg.pass rfl rfl rfl rfl (Reg.pass rfl rfl rfl rfl (s_pkF rfl rfl rfl (s_mv rfl rfl ?_)))))
         iterate 3 refine Reg.pass rfl rfl rfl rfl ?_
         refine s_pkF rfl rfl rfl (s_mv rfl rfl ?_)
         iterate 5 refine Reg.pass rfl rfl rfl rfl ?_
         refine s_pkF rfl rfl rfl (s_as rfl rfl (Reg.nilF [] RSub.nil (nodupB_spec rfl) ?_))
         intro w609 e610
         refine Reg.nil ?_
         have hI611 := hI251.ext e610
         obtain rfl := Option.some.inj h254
         refine ⟨rfl, false, ⟨hI611, (Adv.of_ext e610), rfl⟩, sb1 rfl⟩
        replace h254 := cdF hg523 h254
        refine Reg.pass rfl rfl rfl rfl (Reg.pass rfl rfl rfl rfl (s_pkF rfl rfl rfl (s_mv rfl rfl (Reg.pass rfl rfl rfl rfl (Reg.pass rfl rfl rfl rfl (s_pkF rfl rfl rfl (s_mv rfl rfl (Reg.pass rfl rfl rfl rfl (Reg.pass rfl rfl rfl rfl (s_pkF rfl rfl rfl (s_mv rfl rfl ?_)))))))))))
        iterate 5 refine Reg.pass rfl rfl rfl rfl ?_
        refine s_pkF rfl rfl rfl (s_mv rfl rfl (Reg.pass rfl rfl rfl rfl (Reg.pass rfl rfl rfl rfl (s_pkF rfl rfl rfl (s_mv rfl rfl ?_)))))
        iterate 3 refine Reg.pass rfl rfl rfl rfl ?_
        refine s_pkF rfl rfl rfl (s_mv rfl rfl ?_)
        iterate 5 refine Reg.pass rfl rfl rfl rfl ?_
        refine s_pkF rfl rfl rfl (s_as rfl rfl (Reg.nilF [] RSub.nil (nodupB_spec rfl) ?_))
        intro w612 e613
        refine Reg.nil ?_
        have hI614 := hI251.ext e613
        obtain rfl := Option.some.inj h254
        refine ⟨rfl, false, ⟨hI614, (Adv.of_ext e613), rfl⟩, sb1 rfl⟩
       replace h254 := cdF hg522 h254
       refine Reg.pass rfl rfl rfl rfl (Reg.pass rfl rfl rfl rfl (s_pkF rfl rfl rfl (s_mv rfl rfl (Reg.pass rfl rfl rfl rfl (Reg.pass rfl rfl rfl rfl (s_pkF rfl rfl rfl (s_mv rfl rfl (Reg.pass rfl rfl rfl rfl (Reg.pass rfl rfl rfl rfl (s_pkF rfl rfl rfl (s_mv rfl rfl ?_)))))))))))
       refine Reg.pass rfl rfl rfl rfl (Reg.pass rfl rfl rfl rfl (s_pkF rfl rfl rfl (s_mv rfl rfl ?_)))
       iterate 5 refine Reg.pass rfl rfl rfl rfl ?_
       refine s_pkF rfl rfl rfl (s_mv rfl rfl (Reg.pass rfl rfl rfl rfl (Reg.pass rfl rfl rfl rfl (s_pkF rfl rfl rfl (s_mv rfl rfl ?_)))))
       iterate 3 refine Reg.pass rfl rfl rfl rfl ?_
       refine s_pkF rfl rfl rfl (s_mv rfl rfl ?_)
       iterate 5 refine Reg.pass rfl rfl rfl rfl ?_
       refine s_pkF rfl rfl rfl (s_as rfl rfl (Reg.nilF [] RSub.nil (nodupB_spec rfl) ?_))
       intro w615 e616
       refine Reg.nil ?_
       have hI617 := hI251.ext e616
       obtain rfl := Option.some.inj h254
       refine ⟨rfl, false, ⟨hI617, (Adv.of_ext e616), rfl⟩, sb1 rfl⟩
      replace h254 := cdF hg445 h254
      iterate 7 refine Reg.pass rfl rfl rfl rfl ?_
      refine s_pkF rfl rfl rfl (s_mv rfl rfl (Reg.pass rfl rfl rfl rfl (Reg.pass rfl rfl rfl rfl (s_pkF rfl rfl rfl (s_mv rfl rfl (Reg.pass rfl rfl rfl rfl (Reg.pass rfl rfl rfl rfl (s_pkF rfl rfl rfl (s_mv rfl rfl (Reg.pass rfl rfl rfl rfl (Reg.pass rfl rfl rfl rfl ?_)))))))))))
      refine s_pkF rfl rfl rfl (s_mv rfl rfl (Reg.pass rfl rfl rfl rfl (Reg.pass rfl rfl rfl rfl (s_pkF rfl rfl rfl (s_mv rfl rfl ?_)))))
      iterate 5 refine Reg.pass rfl rfl rfl rfl ?_
      refine s_pkF rfl rfl rfl (s_mv rfl rfl (Reg.pass rfl rfl rfl rfl (Reg.pass rfl rfl rfl rfl (s_pkF rfl rfl rfl (s_mv rfl rfl ?_)))))
      iterate 3 refine Reg.pass rfl rfl rfl rfl ?_
      refine s_pkF rfl rfl rfl (s_mv rfl rfl ?_)
      iterate 5 refine Reg.pass rfl rfl rfl rfl ?_
      refine s_pkF rfl rfl rfl (s_as rfl rfl (Reg.nilF [] RSub.nil (nodupB_spec rfl) ?_))
      intro w618 e619
      refine Reg.nil ?_
      have hI620 := hI251.ext e619
      obtain rfl := Option.some.inj h254
      refine ⟨rfl, false, ⟨hI620, (Adv.of_ext e619), rfl⟩, sb1 rfl⟩
     replace h254 := cdF hg444 h254
     refine Reg.pass rfl rfl rfl rfl (Reg.pass rfl rfl rfl rfl (s_pkF rfl rfl rfl (s_mv rfl rfl ?_)))
     iterate 7 refine Reg.pass rfl rfl rfl rfl ?_
     refine s_pkF rfl rfl rfl (s_mv rfl rfl (Reg.pass rfl rfl rfl rfl (Reg.pass rfl rfl rfl rfl (s_pkF rfl rfl rfl (s_mv rfl rfl (Reg.pass rfl rfl rfl rfl (Reg.pass rfl rfl rfl rfl (s_pkF rfl rfl rfl (s_mv rfl rfl (Reg.pass rfl rfl rfl rfl (Reg.pass rfl rfl rfl rfl ?_)))))))))))
     refine s_pkF rfl rfl rfl (s_mv rfl rfl (Reg.pass rfl rfl rfl rfl (Reg.pass rfl rfl rfl rfl (s_pkF rfl rfl rfl (s_mv rfl rfl ?_)))))
     iterate 5 refine Reg.pass rfl rfl rfl rfl ?_
     refine s_pkF rfl rfl rfl (s_mv rfl rfl (Reg.pass rfl rfl rfl rfl (Reg.pass rfl rfl rfl rfl (s_pkF rfl rfl rfl (s_mv rfl rfl ?_)))))
     iterate 3 refine Reg.pass rfl rfl rfl rfl ?_
     refine s_pkF rfl rfl rfl (s_mv rfl rfl ?_)
     iterate 5 refine Reg.pass rfl rfl rfl rfl ?_
     refine s_pkF rfl rfl rfl (s_as rfl rfl (Reg.nilF [] RSub.nil (nodupB_spec rfl) ?_))
     intro w621 e622
     refine Reg.nil ?_
     have hI623 := hI251.ext e622
     obtain rfl := Option.some.inj h254
     refine ⟨rfl, false, ⟨hI623, (Adv.of_ext e622), rfl⟩, sb1 rfl⟩
    replace h254 := cdF hg337 h254
    iterate 8 refine Reg.pass rfl rfl rfl rfl ?_
    refine s_pkF rfl rfl rfl (s_mv rfl rfl (Reg.pass rfl rfl rfl rfl (Reg.pass rfl rfl rfl rfl (s_pkF rfl rfl rfl (s_mv rfl rfl ?_)))))
    iterate 7 refine Reg.pass rfl rfl rfl rfl ?_
    refine s_pkF rfl rfl rfl (s_mv rfl rfl (Reg.pass rfl rfl rfl rfl (Reg.pass rfl rfl rfl rfl (s_pkF rfl rfl rfl (s_mv rfl rfl (Reg.pass rfl rfl rfl rfl (Reg.pass rfl rfl rfl rfl (s_pkF rfl rfl rfl (s_mv rfl rfl (Reg.pass rfl rfl rfl rfl (Reg.pass rfl rfl rfl rfl ?_)))))))))))
    refine s_pkF rfl rfl rfl (s_mv rfl rfl (Reg.pass rfl rfl rfl rfl (Reg.pass rfl rfl rfl rfl (s_pkF rfl rfl rfl (s_mv rfl rfl ?_)))))
    iterate 5 refine Reg.pass rfl rfl rfl rfl ?_
    refine s_pkF rfl rfl rfl (s_mv rfl rfl (Reg.pass rfl rfl rfl rfl (Reg.pass rfl rfl rfl rfl (s_pkF rfl rfl rfl (s_mv rfl rfl ?_)))))
    iterate 3 refine Reg.pass rfl rfl rfl rfl ?_
    refine s_pkF rfl rfl rfl (s_mv rfl rfl ?_)
    iterate 5 refine Reg.pass rfl rfl rfl rfl ?_
    refine s_pkF rfl rfl rfl (s_as rfl rfl (Reg.nilF [] RSub.nil (nodupB_spec rfl) ?_))
    intro w624 e625
    refine Reg.nil ?_
    have hI626 := hI251.ext e625
    obtain rfl := Option.some.inj h254
    refine ⟨rfl, false, ⟨hI626, (Adv.of_ext e625), rfl⟩, sb1 rfl⟩
   replace h254 := cdF hg336 h254
   refine Reg.pass rfl rfl rfl rfl (Reg.pass rfl rfl rfl rfl (s_pkF rfl rfl rfl (s_mv rfl rfl ?_)))
   iterate 8 refine Reg.pass rfl rfl rfl rfl ?_
   refine s_pkF rfl rfl rfl (s_mv rfl rfl (Reg.pass rfl rfl rfl rfl (Reg.pass rfl rfl rfl rfl (s_pkF rfl rfl rfl (s_mv rfl rfl ?_)))))
   iterate 7 refine Reg.pass rfl rfl rfl rfl ?_
   refine s_pkF rfl rfl rfl (s_mv rfl rfl (Reg.pass rfl rfl rfl rfl (Reg.pass rfl rfl rfl rfl (s_pkF rfl rfl rfl (s_mv rfl rfl (Reg.pass rfl rfl rfl rfl (Reg.pass rfl rfl rfl rfl (s_pkF rfl rfl rfl (s_mv rfl rfl (Reg.pass rfl rfl rfl rfl (Reg.pass rfl rfl rfl rfl ?_)))))))))))
   refine s_pkF rfl rfl rfl (s_mv rfl rfl (Reg.pass rfl rfl rfl rfl (Reg.pass rfl rfl rfl rfl (s_pkF rfl rfl rfl (s_mv rfl rfl ?_)))))
   iterate 5 refine Reg.pass rfl rfl rfl rfl ?_
   refine s_pkF rfl rfl rfl (s_mv rfl rfl (Reg.pass rfl rfl rfl rfl (Reg.pass rfl rfl rfl rfl (s_pkF rfl rfl rfl (s_mv rfl rfl ?_)))))
   iterate 3 refine Reg.pass rfl rfl rfl rfl ?_
   refine s_pkF rfl rfl rfl (s_mv rfl rfl ?_)
   iterate 5 refine Reg.pass rfl rfl rfl rfl ?_
   refine s_pkF rfl rfl rfl (s_as rfl rfl (Reg.nilF [] RSub.nil (nodupB_spec rfl) ?_))
   intro w627 e628
   refine Reg.nil ?_
   have hI629 := hI251.ext e628
   obtain rfl := Option.some.inj h254
   refine ⟨rfl, false, ⟨hI629, (Adv.of_ext e628), rfl⟩, sb1 rfl⟩
  replace h254 := cdF hg259 h254
  iterate 6 refine Reg.pass rfl rfl rfl rfl ?_
  refine s_pkF rfl rfl rfl (s_mv rfl rfl (Reg.pass rfl rfl rfl rfl (Reg.pass rfl rfl rfl rfl (s_pkF rfl rfl rfl (s_mv rfl rfl ?_)))))
  iterate 8 refine Reg.pass rfl rfl rfl rfl ?_
  refine s_pkF rfl rfl rfl (s_mv rfl rfl (Reg.pass rfl rfl rfl rfl (Reg.pass rfl rfl rfl rfl (s_pkF rfl rfl rfl (s_mv rfl rfl ?_)))))
  iterate 7 refine Reg.pass rfl rfl rfl rfl ?_
  refine s_pkF rfl rfl rfl (s_mv rfl rfl (Reg.pass rfl rfl rfl rfl (Reg.pass rfl rfl rfl rfl (s_pkF rfl rfl rfl (s_mv rfl rfl (Reg.pass rfl rfl rfl rfl (Reg.pass rfl rfl rfl rfl (s_pkF rfl rfl rfl (s_mv rfl rfl (Reg.pass rfl rfl rfl rfl (Reg.pass rfl rfl rfl rfl ?_)))))))))))
  refine s_pkF rfl rfl rfl (s_mv rfl rfl (Reg.pass rfl rfl rfl rfl (Reg.pass rfl rfl rfl rfl (s_pkF rfl rfl rfl (s_mv rfl rfl ?_)))))
  iterate 5 refine Reg.pass rfl rfl rfl rfl ?_
  refine s_pkF rfl rfl rfl (s_mv rfl rfl (Reg.pass rfl rfl rfl rfl (Reg.pass rfl rfl rfl rfl (s_pkF rfl rfl rfl (s_mv rfl rfl ?_)))))
  iterate 3 refine Reg.pass rfl rfl rfl rfl ?_
  refine s_pkF rfl rfl rfl (s_mv rfl rfl ?_)
  iterate 5 refine Reg.pass rfl rfl rfl rfl ?_
  refine s_pkF rfl rfl rfl (s_as rfl rfl (Reg.nilF [] RSub.nil (nodupB_spec rfl) ?_))
  intro w630 e631
  refine Reg.nil ?_
  have hI632 := hI251.ext e631
  obtain rfl := Option.some.inj h254
  refine ⟨rfl, false, ⟨hI632, (Adv.of_ext e631), rfl⟩, sb1 rfl⟩
 rintro x255 w256 ⟨hI257, hA258, rfl⟩
 refine cw_ret ?_
 obtain rfl := Option.some.inj h
 refine fin1 Tryd.results26 rfl ?_
 exact ⟨rfl, hI257.kp⟩
noncomputable def P.law03_ready (l : (List Report)) (id : Int) (days : (List Int)) : Option Bool :=
  Option.bind (cond (decide (80 < (l.length : Int))) (some true) (Option.bind (P.ref03_Check l) fun z2 => cond (!decide (z2 = 0)) (some true) (cond (decide (id < 0)) (some true) (some (decide (999999 < id)))))) fun x10 => cond x10 (some false) (Option.bind (loopM (S := Int) (R := (Unit) ⊕ (Bool)) (fun x12 => cond (decide (x12 < (days.length : Int))) (Option.bind (ixo days x12) fun y14 => Option.bind (cond (decide (y14 < 0)) (some true) (some (decide (100000 < y14)))) fun x22 => cond x22 (some (.inr (.inr false))) (Option.bind (chk .i64 (x12 + 1)) fun n24 => some (.inl n24))) (some (.inr (.inl ())))) 0) fun j25 => Sum.elim (fun _ => some true) (fun r26 => some r26)  j25)
theorem C_law03_ready {M : List Nat} {w : World} (hM : MLt M w) {l : (List Report)} {v_l_0 : Value} (f_l_0 : RdS ReportE M w v_l_0 l) {id : Int} (f_id_0 : InK .i64 id) {days : (List Int)} {v_days_0 : Value} (f_days_0 : RdS (intE .i64) M w v_days_0 days) {r0 : Bool} (h : P.law03_ready l id days = some r0) :
  Calls Tryd.prog 30 (List.toArray [v_l_0, vi id, v_days_0]) w fun e w' => e = .returned (Value.bool r0) ∧ Ext w w' := by
 have hI := Hp.start (Mu := []) hM
 refine calls_cw Tryd.func30 rfl Tryd.ntmps30 rfl ?_
 refine cw_seq (cw_regF (s_as rfl rfl (Reg.nil (cw_seq ?_))))
 obtain ⟨j1, h2, h⟩ := bnd h
 refine cw_keep [0, 1, 2] rfl (cw_seqD 2 (ι := Bool) (fun x3 => [(24, Value.bool x3)]) (fun x3 => fun w4 => Hp w [] M [] w4 ∧ Adv (mm [] M) (mm [] M) w w4 ∧ x3 = j1) ?_ ?_)
 ·refine cw_regF (s_mv rfl rfl (s_len rfl f_l_0 Tryd.underlying22 rfl (s_gtr rfl rfl rfl (s_mv rfl rfl (Reg.gsplit (t := 12) rfl (fun hg7 => ?_) (fun hg7 => ?_))))))
  ·replace h2 := cdT hg7 h2
   iterate 3 refine Reg.pass rfl rfl rfl rfl ?_
   refine s_pkT rfl rfl rfl (s_mv rfl rfl (Reg.pass rfl rfl rfl rfl (Reg.pass rfl rfl rfl rfl (s_pkT rfl rfl rfl (s_mv rfl rfl (Reg.pass rfl rfl rfl rfl (Reg.pass rfl rfl rfl rfl (s_pkT rfl rfl rfl (Reg.nil ?_)))))))))
   obtain rfl := Option.some.inj h2
   refine ⟨rfl, true, ⟨hI, (Adv.refl _ _), rfl⟩, sb2 rfl rfl⟩
  replace h2 := cdF hg7 h2
  refine Reg.take rfl rfl (s_mv rfl rfl (Reg.take rfl rfl ?_))
  obtain ⟨z8, hz9, h2⟩ := bnd h2
  refine s_call rfl Tryd.call18 rfl ((C_ref03_Check hI.mlt f_l_0 hz9).mono ?_)
  rintro _ w10 ⟨rfl, r12, e11⟩
  refine ⟨_, rfl, ?_⟩
  have hI13 := hI.ext e11
  refine Reg.take rfl rfl (s_neq rfl rfl rfl (s_pkF rfl rfl rfl (s_mv rfl rfl (Reg.gsplit (t := 17) rfl (fun hg14 => ?_) (fun hg14 => ?_)))))
  ·replace h2 := cdT hg14 h2
   refine Reg.pass rfl rfl rfl rfl (Reg.pass rfl rfl rfl rfl (s_pkT rfl rfl rfl (s_mv rfl rfl (Reg.pass rfl rfl rfl rfl (Reg.pass rfl rfl rfl rfl (s_pkT rfl rfl rfl (Reg.nil ?_)))))))
   obtain rfl := Option.some.inj h2
   refine ⟨rfl, true, ⟨hI13, hI13.adv, rfl⟩, sb2 rfl rfl⟩
  replace h2 := cdF hg14 h2
  refine Reg.take rfl rfl (s_mv rfl rfl (Reg.take rfl rfl (s_lss rfl rfl rfl (s_pkF rfl rfl rfl (s_mv rfl rfl (Reg.gsplit (t := 21) rfl (fun hg15 => ?_) (fun hg15 => ?_)))))))
  ·replace h2 := cdT hg15 h2
   refine Reg.pass rfl rfl rfl rfl (Reg.pass rfl rfl rfl rfl (s_pkT rfl rfl rfl (Reg.nil ?_)))
   obtain rfl := Option.some.inj h2
   refine ⟨rfl, true, ⟨hI13, hI13.adv, rfl⟩, sb2 rfl rfl⟩
  replace h2 := cdF hg15 h2
  refine Reg.take rfl rfl (s_mv rfl rfl (Reg.take rfl rfl (s_gtr rfl rfl rfl (s_pkF rfl rfl rfl (Reg.nil ?_)))))
  obtain rfl := Option.some.inj h2
  refine ⟨rfl, decide (999999 < id), ⟨hI13, hI13.adv, rfl⟩, sb2 rfl rfl⟩
 rintro x3 w4 ⟨hI5, hA6, rfl⟩
 refine cw_cond rfl (fun hc16 => ?_) (fun hc16 => ?_)
 ·replace h := cdT hc16 h
  refine cw_seq (cw_regF (s_as rfl rfl (Reg.nil (cw_ret ?_))))
  obtain rfl := Option.some.inj h
  refine fin1 Tryd.results30 rfl ?_
  exact ⟨rfl, hI5.kp⟩
 replace h := cdF hc16 h
 refine cw_skip (cw_seq (cw_seq (cw_regF (s_mv rfl rfl (s_len rfl (f_days_0.adv hI5.adv) Tryd.underlying36 rfl (s_mv rfl rfl (Reg.nil ?_)))))))
 obtain ⟨j17, h18, h⟩ := bnd h
 refine cw_keep [25, 26, 27] rfl (cw_unitD 3 (ι := Unit) (fun _ => []) (fun _ => fun w19 => w4 = w19 ∧ (.inl ()) = j17) ?_ ?_)
 ·refine cw_block (cw_keep [27, 25, 26] rfl ?_)
  refine cw_loopM 1 (ι := Int) _ (fun x22 => [(27, vi x22)]) (fun x22 => x22) (fun x22 => fun w24 => w4 = w24 ∧ InK .i64 x22) 0 h18 ⟨rfl, (by decide)⟩ (sb3 rfl rfl rfl) ?_
  rintro x22 _ ⟨rfl, r23⟩ y27 h28 hR29
  refine cw_seq (cw_regF (s_lss rfl rfl rfl (Reg.nil (cw_seq (cw_cond rfl (fun hc30 => ?_) (fun hc30 => ?_))))))
  ·replace h28 := cdT hc30 h28
   refine cw_skip (cw_seq (cw_block (cw_seq (cw_regF ?_))))
   obtain ⟨y31, hy31, h28⟩ := bnd h28
   refine p_ia rfl rfl (f_days_0.adv hI5.adv) hy31 Tryd.underlying36 Tryd.sizeOf3 rfl ?_
   intro b32 o33 cs34 hR35 hC36
   obtain ⟨rfl, r37⟩ := hR35
   refine s_ld rfl (hC36.cells.at 0 rfl) Tryd.isAgg3 rfl (s_as rfl rfl (Reg.nil ?_))
   obtain ⟨j38, h39, h28⟩ := bnd h28
   refine cw_keep [8, 25, 26, 27] rfl (cw_seqD 1 (ι := Bool) (fun x40 => [(36, Value.bool x40)]) (fun x40 => fun w41 => w4 = w41 ∧ x40 = j38) ?_ ?_)
   ·refine cw_regF (s_mv rfl rfl (s_lss rfl rfl rfl (s_mv rfl rfl (Reg.gsplit (t := 33) rfl (fun hg44 => ?_) (fun hg44 => ?_)))))
    ·replace h39 := cdT hg44 h39
     refine Reg.pass rfl rfl rfl rfl (Reg.pass rfl rfl rfl rfl (s_pkT rfl rfl rfl (Reg.nil ?_)))
     obtain rfl := Option.some.inj h39
     refine ⟨rfl, true, ⟨rfl, rfl⟩, sb4 rfl rfl rfl rfl⟩
    replace h39 := cdF hg44 h39
    refine Reg.take rfl rfl (s_mv rfl rfl (Reg.take rfl rfl (s_gtr rfl rfl rfl (s_pkF rfl rfl rfl (Reg.nil ?_)))))
    obtain rfl := Option.some.inj h39
    refine ⟨rfl, decide (100000 < y31), ⟨rfl, rfl⟩, sb4 rfl rfl rfl rfl⟩
   rintro x40 _ ⟨rfl, rfl⟩
   refine cw_cond rfl (fun hc45 => ?_) (fun hc45 => ?_)
   ·replace h28 := cdT hc45 h28
    refine cw_seq (cw_regF (s_as rfl rfl (Reg.nil (cw_ret ?_))))
    obtain rfl := Option.some.inj h28
    obtain rfl := hR29 _ rfl
    replace h := elimR h
    obtain rfl := Option.some.inj h
    refine fin1 Tryd.results30 rfl ?_
    exact ⟨rfl, hI5.kp⟩
   replace h28 := cdF hc45 h28
   refine cw_skip (cw_regF ?_)
   obtain ⟨n46, hn46, h28⟩ := bnd h28
   replace hn46 := chk_out hn46
   refine p_add rfl rfl rfl hn46 (s_mv rfl rfl (Reg.nil ?_))
   obtain rfl := Option.some.inj h28
   refine ⟨rfl, n46, ⟨⟨rfl, hn46.2⟩, rfl⟩, sb3 rfl rfl rfl⟩
  replace h28 := cdF hc30 h28
  refine cw_exit (exB_same ?_)
  obtain rfl := Option.some.inj h28
  obtain rfl := hR29 _ rfl
  refine ⟨rfl, (), ⟨rfl, rfl⟩, Sub.nil _⟩
 rintro _ _ ⟨rfl, rfl⟩
 replace h := elimL h
 refine cw_seq (cw_regF (s_as rfl rfl (Reg.nil (cw_ret ?_))))
 obtain rfl := Option.some.inj h
 refine fin1 Tryd.results30 rfl ?_
 exact ⟨rfl, hI5.kp⟩
noncomputable def P.law03_find (l : (List Report)) (id : Int) : Option (Report × Bool) :=
  Option.bind (loopM (S := Int) (R := (Unit) ⊕ (Report × Bool)) (fun x5 => cond (decide (x5 < (l.length : Int))) (Option.bind (ixo l x5) fun y7 => cond (decide (y7.id = id)) (some (.inr (.inr ((Report.mk y7.id y7.source y7.account y7.made y7.about y7.kind y7.cents y7.of_), true)))) (Option.bind (chk .i64 (x5 + 1)) fun n34 => some (.inl n34))) (some (.inr (.inl ())))) 0) fun j35 => Sum.elim (fun _ => some ((Report.mk 0 0 0 0 0 0 0 0), false)) (fun r39 => some r39)  j35
theorem C_law03_find {M : List Nat} {w : World} (hM : MLt M w) {l : (List Report)} {v_l_0 : Value} (f_l_0 : RdS ReportE M w v_l_0 l) {id : Int} (f_id_0 : InK .i64 id) {r0 : Report} {r1 : Bool} (h : P.law03_find l id = some (r0, r1)) :
  Calls Tryd.prog 33 (List.toArray [v_l_0, vi id]) w fun e w' => e = .returned (Value.tuple (List.toArray [Value.agg (List.toArray (vR r0)), Value.bool r1])) ∧ InK .i64 r0.id ∧ InK .i64 r0.source ∧ InK .i64 r0.account ∧ InK .i64 r0.made ∧ InK .i64 r0.about ∧ InK .u8 r0.kind ∧ InK .i64 r0.cents ∧ InK .i64 r0.of_ ∧ Ext w w' := by
 have hI := Hp.start (Mu := []) hM
 refine calls_cw Tryd.func33 rfl Tryd.ntmps33 rfl ?_
 refine cw_seq (cw_regF (y_al hI Tryd.zeroValue61 rfl rfl ?_))
 intro b1 w2 hI3 x4
 refine s_as rfl rfl (Reg.nil (cw_seq (cw_seq (cw_regF (s_mv rfl rfl (s_len rfl (f_l_0.adv hI3.adv) Tryd.underlying22 rfl (s_mv rfl rfl (Reg.nil ?_))))))))
 obtain ⟨j5, h6, h⟩ := bnd h
 refine cw_keep [1, 8, 9, 10, 4] rfl (cw_unitD 4 (ι := Unit) (fun _ => []) (fun _ => fun w7 => Hp w [] M [rowR 61 b1 zR] w7 ∧ Adv (mm [rowR 61 b1 zR] M) (mm [rowR 61 b1 zR] M) w2 w7 ∧ (.inl ()) = j5) ?_ ?_)
 ·refine cw_block (cw_keep [10, 1, 4, 8, 9] rfl ?_)
  refine cw_loopM 1 (ι := Int) _ (fun x10 => [(10, vi x10)]) (fun x10 => x10) (fun x10 => fun w12 => Hp w [] M [rowR 61 b1 zR] w12 ∧ Adv (mm [rowR 61 b1 zR] M) (mm [rowR 61 b1 zR] M) w2 w12 ∧ InK .i64 x10) 0 h6 ⟨hI3, (Adv.refl _ _), (by decide)⟩ (sb5 rfl rfl rfl rfl rfl) ?_
  rintro x10 w12 ⟨hI13, hA14, r11⟩ y15 h16 hR17
  refine cw_seq (cw_regF (s_lss rfl rfl rfl (Reg.nil (cw_seq (cw_cond rfl (fun hc18 => ?_) (fun hc18 => ?_))))))
  ·replace h16 := cdT hc18 h16
   refine cw_skip (cw_seq (cw_block (cw_seq (cw_regF ?_))))
   obtain ⟨y19, hy19, h16⟩ := bnd h16
   refine p_ia rfl rfl (f_l_0.adv hI13.adv) hy19 Tryd.underlying22 Tryd.sizeOf61 rfl ?_
   intro b20 o21 cs22 hR23 hC24
   obtain ⟨rfl, r25, r26, r27, r28, r29, r30, r31, r32⟩ := ReportE_R.1 hR23
   refine s_lda rfl hC24.cells Tryd.isAgg61 rfl Tryd.sizeOf61 rfl (y_al hI13 Tryd.zeroValue61 rfl rfl ?_)
   intro b33 w34 hI35 x36
   refine y_st 0 hI35 rfl rfl rfl rfl Tryd.sizeOf61 rfl rfl (on8 rfl rfl rfl rfl rfl rfl rfl rfl) ?_
   intro w37 hI38 x39
   have hC41 := hI38.freezeRow 0 rfl
   have hI40 := hI38.erase 0
   refine Reg.nil (cw_seq (cw_regF (s_fa rfl Tryd.underlying61 rfl Tryd.sizeOf3 rfl (s_ld rfl (hC41.cells.at 0 rfl) Tryd.isAgg3 rfl (s_mv rfl rfl (s_eql rfl rfl rfl (Reg.nil (cw_cond rfl (fun hc42 => ?_) (fun hc42 => ?_)))))))))
   ·replace h16 := cdT hc42 h16
    refine cw_seq (cw_regF (s_lda rfl hC41.cells Tryd.isAgg61 rfl Tryd.sizeOf61 rfl (y_st 0 hI40 rfl rfl rfl rfl Tryd.sizeOf61 rfl rfl (on8 rfl rfl rfl rfl rfl rfl rfl rfl) ?_)))
    intro w43 hI44 x45
    refine s_as rfl rfl (Reg.nil (cw_ret ?_))
    obtain rfl := Option.some.inj h16
    obtain rfl := hR17 _ rfl
    replace h := elimR h
    obtain ⟨rfl, rfl⟩ := inj2 h
    refine fin_any Tryd.results33 (AllRs.cons (RsOk.agg rfl (hI44.row 0 rfl).rd.cells Tryd.isAgg61 rfl Tryd.sizeOf61) (AllRs.cons (RsOk.tmp rfl) (AllRs.nil))) rfl ?_
    exact ⟨rfl, r25, r26, r27, r28, r29, r30, r31, r32, hI44.kp⟩
   replace h16 := cdF hc42 h16
   refine cw_skip (cw_regF ?_)
   obtain ⟨n46, hn46, h16⟩ := bnd h16
   replace hn46 := chk_out hn46
   refine p_add rfl rfl rfl hn46 (s_mv rfl rfl (Reg.nil ?_))
   obtain rfl := Option.some.inj h16
   refine ⟨rfl, n46, ⟨⟨hI40, (hA14.trans (x36.trans (x39.trans (hI38.eraseH 0)))), hn46.2⟩, rfl⟩, sb5 rfl rfl rfl rfl rfl⟩
  replace h16 := cdF hc18 h16
  refine cw_exit (exB_same ?_)
  obtain rfl := Option.some.inj h16
  obtain rfl := hR17 _ rfl
  refine ⟨rfl, (), ⟨hI13, hA14, rfl⟩, sb1 rfl⟩
 rintro _ w7 ⟨hI8, hA9, rfl⟩
 replace h := elimL h
 refine cw_seq (cw_regF ?_)
 refine s_bd [(0, 1), (1, 1), (2, 1), (3, 1), (4, 1), (5, 1), (6, 1), (7, 1)] Tryd.zeroValue61 rfl Tryd.underlying61 (fun _ => by simp [Tryd.sizeOf3, Tryd.sizeOf5]) rfl (Cls.nil) rfl rfl ?_
 refine y_st 0 hI8 rfl rfl rfl rfl Tryd.sizeOf61 rfl rfl (on8 rfl rfl rfl rfl rfl rfl rfl rfl) ?_
 intro w47 hI48 x49
 refine s_as rfl rfl (Reg.nil (cw_ret ?_))
 obtain ⟨rfl, rfl⟩ := inj2 h
 refine fin_any Tryd.results33 (AllRs.cons (RsOk.agg rfl (hI48.row 0 rfl).rd.cells Tryd.isAgg61 rfl Tryd.sizeOf61) (AllRs.cons (RsOk.tmp rfl) (AllRs.nil))) rfl ?_
 exact ⟨rfl, (show InK .i64 0 by decide), (show InK .i64 0 by decide), (show InK .i64 0 by decide), (show InK .i64 0 by decide), (show InK .i64 0 by decide), (show InK .u8 0 by decide), (show InK .i64 0 by decide), (show InK .i64 0 by decide), hI48.kp⟩
noncomputable def P.law03_things (s : State) : Option ((List Told) × (List Int)) :=
  some (([(Told.mk s.opened.known s.opened.cents s.opened.since s.opened.by_), (Told.mk s.limit.known s.limit.cents s.limit.since s.limit.by_), (Told.mk s.owed.known s.owed.cents s.owed.since s.owed.by_), (Told.mk s.late.known s.late.cents s.late.since s.late.by_), (Told.mk s.default.known s.default.cents s.default.since s.default.by_), (Told.mk s.closed.known s.closed.cents s.closed.since s.closed.by_)] : List Told), ([1, 2, 3, 5, 6, 7] : List Int))
theorem C_law03_things {M : List Nat} {w : World} (hM : MLt M w) {s : State} {v_s_3 : Value} {v_s_7 : Value} {v_s_11 : Value} {v_s_15 : Value} {v_s_19 : Value} {v_s_23 : Value} (f_s_0 : InK .u8 s.opened.known) (f_s_1 : InK .i64 s.opened.cents) (f_s_2 : InK .i64 s.opened.since) (f_s_3 : RdS (intE .i64) M w v_s_3 s.opened.by_) (f_s_4 : InK .u8 s.limit.known) (f_s_5 : InK .i64 s.limit.cents) (f_s_6 : InK .i64 s.limit.since) (f_s_7 : RdS (intE .i64) M w v_s_7 s.limit.by_) (f_s_8 : InK .u8 s.owed.known) (f_s_9 : InK .i64 s.owed.cents) (f_s_10 : InK .i64 s.owed.since) (f_s_11 : RdS (intE .i64) M w v_s_11 s.owed.by_) (f_s_12 : InK .u8 s.late.known) (f_s_13 : InK .i64 s.late.cents) (f_s_14 : InK .i64 s.late.since) (f_s_15 : RdS (intE .i64) M w v_s_15 s.late.by_) (f_s_16 : InK .u8 s.default.known) (f_s_17 : InK .i64 s.default.cents) (f_s_18 : InK .i64 s.default.since) (f_s_19 : RdS (intE .i64) M w v_s_19 s.default.by_) (f_s_20 : InK .u8 s.closed.known) (f_s_21 : InK .i64 s.closed.cents) (f_s_22 : InK .i64 s.closed.since) (f_s_23 : RdS (intE .i64) M w v_s_23 s.closed.by_) (f_s_24 : InK .i64 s.paid.lo) (f_s_25 : InK .i64 s.paid.hi) (f_s_26 : InK .u8 s.is_) {r0 : (List Told)} {r1 : (List Int)} (h : P.law03_things s = some (r0, r1)) :
  Calls Tryd.prog 32 (List.toArray [Value.agg (List.toArray [vu s.opened.known, vi s.opened.cents, vi s.opened.since, v_s_3, vu s.limit.known, vi s.limit.cents, vi s.limit.since, v_s_7, vu s.owed.known, vi s.owed.cents, vi s.owed.since, v_s_11, vu s.late.known, vi s.late.cents, vi s.late.since, v_s_15, vu s.default.known, vi s.default.cents, vi s.default.since, v_s_19, vu s.closed.known, vi s.closed.cents, vi s.closed.since, v_s_23, vi s.paid.lo, vi s.paid.hi, vu s.is_])]) w fun e w' => ∃ v0_0 : Value, ∃ v1_0 : Value, e = .returned (Value.tuple (List.toArray [v0_0, v1_0])) ∧ (Sx.Own ToldE 38 0 M w' v0_0 r0 ∧ ∀ b ∈ ob v0_0, w.heap.size ≤ b) ∧ RdS (intE .u8) (ob v0_0 ++ M) w' v1_0 r1 ∧ Ext w w' := by
 have hI := Hp.start (Mu := []) hM
 refine calls_cw Tryd.func32 rfl Tryd.ntmps32 rfl ?_
 refine cw_seq (cw_regF (y_box hI rfl rfl rfl ?_))
 intro b1 w2 hI3 x4
 have hC6 := hI3.freezeRow 0 rfl
 have hI5 := hI3.erase 0
 refine s_as rfl rfl (s_as rfl rfl (Reg.nil (cw_seq (cw_regF (s_fa rfl Tryd.underlying42 rfl Tryd.sizeOf38 rfl (s_lda rfl (Cells.sub hC6.cells 0 4) Tryd.isAgg38 rfl Tryd.sizeOf38 rfl (s_fa rfl Tryd.underlying42 rfl Tryd.sizeOf38 rfl (s_lda rfl (Cells.sub hC6.cells 4 4) Tryd.isAgg38 rfl Tryd.sizeOf38 rfl (s_fa rfl Tryd.underlying42 rfl Tryd.sizeOf38 rfl (s_lda rfl (Cells.sub hC6.cells 8 4) Tryd.isAgg38 rfl Tryd.sizeOf38 rfl (s_fa rfl Tryd.underlying42 rfl Tryd.sizeOf38 rfl ?_)))))))))))
 refine s_lda rfl (Cells.sub hC6.cells 12 4) Tryd.isAgg38 rfl Tryd.sizeOf38 rfl (s_fa rfl Tryd.underlying42 rfl Tryd.sizeOf38 rfl (s_lda rfl (Cells.sub hC6.cells 16 4) Tryd.isAgg38 rfl Tryd.sizeOf38 rfl (s_fa rfl Tryd.underlying42 rfl Tryd.sizeOf38 rfl (s_lda rfl (Cells.sub hC6.cells 20 4) Tryd.isAgg38 rfl Tryd.sizeOf38 rfl (y_bs (E := ToldE) (xs := [(Told.mk s.opened.known s.opened.cents s.opened.since s.opened.by_), (Told.mk s.limit.known s.limit.cents s.limit.since s.limit.by_), (Told.mk s.owed.known s.owed.cents s.owed.since s.owed.by_), (Told.mk s.late.known s.late.cents s.late.since s.late.by_), (Told.mk s.default.known s.default.cents s.default.since s.default.by_), (Told.mk s.closed.known s.closed.cents s.closed.since s.closed.by_)]) sl70 hI5 rfl rfl (Cls.cons rfl (Cls.cons rfl (Cls.cons rfl (Cls.cons rfl (Cls.cons rfl (Cls.cons rfl Cls.nil)))))) (Chs.cons ((ToldE_R (x := (Told.mk s.opened.known s.opened.cents s.opened.since s.opened.by_))).2 ⟨_, rfl, f_s_0, f_s_1, f_s_2, (f_s_3.adv hI5.adv)⟩) (Chs.cons ((ToldE_R (x := (Told.mk s.limit.known s.limit.cents s.limit.since s.limit.by_))).2 ⟨_, rfl, f_s_4, f_s_5, f_s_6, (f_s_7.adv hI5.adv)⟩) (Chs.cons ((ToldE_R (x := (Told.mk s.owed.known s.owed.cents s.owed.since s.owed.by_))).2 ⟨_, rfl, f_s_8, f_s_9, f_s_10, (f_s_11.adv hI5.adv)⟩) (Chs.cons ((ToldE_R (x := (Told.mk s.late.known s.late.cents s.late.since s.late.by_))).2 ⟨_, rfl, f_s_12, f_s_13, f_s_14, (f_s_15.adv hI5.adv)⟩) (Chs.cons ((ToldE_R (x := (Told.mk s.default.known s.default.cents s.default.since s.default.by_))).2 ⟨_, rfl, f_s_16, f_s_17, f_s_18, (f_s_19.adv hI5.adv)⟩) (Chs.cons ((ToldE_R (x := (Told.mk s.closed.known s.closed.cents s.closed.since s.closed.by_))).2 ⟨_, rfl, f_s_20, f_s_21, f_s_22, (f_s_23.adv hI5.adv)⟩) Chs.nil)))))) rfl rfl ?_)))))
 intro v7 w8 hI9 x10
 refine y_bs (E := (intE .u8)) (xs := [1, 2, 3, 5, 6, 7]) sl71 hI9 rfl rfl (Cls.cons rfl (Cls.cons rfl (Cls.cons rfl (Cls.cons rfl (Cls.cons rfl (Cls.cons rfl Cls.nil)))))) (Chs.cons ⟨rfl, (by decide)⟩ (Chs.cons ⟨rfl, (by decide)⟩ (Chs.cons ⟨rfl, (by decide)⟩ (Chs.cons ⟨rfl, (by decide)⟩ (Chs.cons ⟨rfl, (by decide)⟩ (Chs.cons ⟨rfl, (by decide)⟩ Chs.nil)))))) rfl rfl ?_
 intro v11 w12 hI13 x14
 refine s_as rfl rfl (s_as rfl rfl (Reg.nil (cw_ret ?_)))
 obtain ⟨rfl, rfl⟩ := inj2 h
 have hf15 := hI13.freeze 0 rfl
 have hI16 := hI13.erase 0
 refine fin2 Tryd.results32 rfl rfl ?_
 exact ⟨_, _, rfl, (hI16.ownOut 0 rfl), (hf15.adv (hI16.outH 0 rfl)), hI16.kp⟩
end Go.Proofs.YtepjkmoipjeghaaDoor
namespace Go.Proofs.YtepjkmoipjeghaaDoor
open Go Go.Sx
namespace S
def ex9 : List Report := [⟨1, 70, 5, 10, 8, 1, 0, 0⟩, ⟨2, 70, 5, 20, 15, 3, 500, 0⟩, ⟨3, 80, 5, 21, 15, 3, 520, 0⟩, ⟨4, 70, 5, 30, 29, 5, 35, 0⟩, ⟨5, 70, 5, 40, 15, 8, 520, 2⟩, ⟨6, 70, 5, 41, 0, 9, 0, 4⟩, ⟨7, 70, 5, 50, 45, 4, 100, 0⟩, ⟨8, 80, 5, 50, 45, 4, 100, 0⟩, ⟨9, 80, 5, 51, 45, 4, 30, 0⟩]
theorem p_reports : P.law03_reports = some ex9 := rfl
theorem ex9_v : ∀ r ∈ ex9, V r := by
  intro r hr
  simp only [ex9, List.mem_cons, List.mem_nil_iff, or_false] at hr
  rcases hr with rfl | rfl | rfl | rfl | rfl | rfl | rfl | rfl | rfl <;> simp [V, most]
theorem ex9_nd : (ex9.map (·.id)).Nodup := by simp [ex9]
theorem ex9_in : ∀ r ∈ ex9, InR r := fun r hr => (ex9_v r hr).inR
theorem ex9_chk : chkE ex9 = 0 := chk_ok (by simp [ex9]) ex9_v (cons_nd ex9_nd)
def kn9 (known : Int) : List Report := ex9.filter fun r => decide (r.made ≤ known)
theorem ex9_fc {known : Int} {F : List Report} (e : TB (kn9 known) = F) (hs : F.Pairwise le) : Fc ex9 known F := by
  subst e; exact fc_B ex9_v ex9_nd (by simp [ex9]) hs
def g1 : Report := ⟨1, 70, 5, 10, 8, 1, 0, 0⟩
def g2 : Report := ⟨2, 70, 5, 20, 15, 3, 500, 0⟩
def g2' : Report := ⟨2, 70, 5, 20, 15, 3, 520, 0⟩
def g3 : Report := ⟨3, 80, 5, 21, 15, 3, 520, 0⟩
def g4 : Report := ⟨4, 70, 5, 30, 29, 5, 35, 0⟩
def g7 : Report := ⟨7, 70, 5, 50, 45, 4, 100, 0⟩
def g8 : Report := ⟨8, 80, 5, 50, 45, 4, 100, 0⟩
def g9 : Report := ⟨9, 80, 5, 51, 45, 4, 30, 0⟩
theorem fc25 : Fc ex9 25 [g1, g2, g3] := ex9_fc (by kernel_rfl) (by decide)
theorem fc35 : Fc ex9 35 [g1, g2, g3, g4] := ex9_fc (by kernel_rfl) (by decide)
theorem fc45 : Fc ex9 45 [g1, g2', g3] := ex9_fc (by kernel_rfl) (by decide)
theorem fc60 : Fc ex9 60 [g1, g2', g3, g7, g8, g9] := ex9_fc (by kernel_rfl) (by decide)
theorem kw9 (known : Int) : Kw ex9 known (kn9 known) := ⟨fun r => by unfold kn9; rw [List.mem_filter, decide_eq_true_eq], fun r hr => ex9_v r (List.mem_filter.1 hr).1, (List.filter_sublist.map _).nodup ex9_nd, Nat.le_trans (List.length_filter_le _ _) (by simp [ex9])⟩
theorem told_ids {o : Bool} {f : Report} {r : List Report} (h : ((f :: r).map (·.id)).Pairwise (· ≤ ·)) : told o (f :: r) = if (f :: r).all (ag o f) then ⟨2, f.cents, f.about, (f :: r).map (·.id)⟩ else ⟨1, 0, f.about, (f :: r).map (·.id)⟩ := by
  rw [told_cons, sid_eq h]
theorem t1 : told true [g1] = ⟨2, 0, 8, [1]⟩ := by rw [told_ids (by decide)]; rfl
theorem t23 : told false [g2, g3] = ⟨1, 0, 15, [2, 3]⟩ := by rw [told_ids (by decide)]; rfl
theorem t23' : told false [g2', g3] = ⟨2, 520, 15, [2, 3]⟩ := by rw [told_ids (by decide)]; rfl
theorem t4 : told false [g4] = ⟨2, 35, 29, [4]⟩ := by rw [told_ids (by decide)]; rfl
theorem pay0 {F : List Report} (h : fk F 4 = []) : payF F = ⟨0, 0⟩ := by unfold payF; rw [h]; rfl
theorem pd789 : pd [g7, g8, g9] 45 = ⟨100, 130⟩ := pd_is ⟨⟨g7, by simp [grp, g7, g8, g9], by decide⟩, ⟨g8, by simp [grp, g7, g8, g9], by decide⟩, fun r hr => by
  have : r = g7 ∨ r = g8 ∨ r = g9 := by simpa [grp, g7, g8, g9] using hr
  rcases this with rfl | rfl | rfl <;> decide⟩
theorem st25 : stF (List.filter (ofA 5 20) [g1, g2, g3]) = ⟨⟨2, 0, 8, [1]⟩, t0, ⟨1, 0, 15, [2, 3]⟩, t0, t0, t0, ⟨0, 0⟩, 1⟩ := by
  have e : List.filter (ofA 5 20) [g1, g2, g3] = [g1, g2, g3] := rfl
  rw [e]; unfold stF
  have e1 : fk [g1, g2, g3] 1 = [g1] := rfl
  have e2 : fk [g1, g2, g3] 2 = [] := rfl
  have e3 : fk [g1, g2, g3] 3 = [g2, g3] := rfl
  have e4 : fk [g1, g2, g3] 4 = [] := rfl
  have e5 : fk [g1, g2, g3] 5 = [] := rfl
  have e6 : fk [g1, g2, g3] 6 = [] := rfl
  have e7 : fk [g1, g2, g3] 7 = [] := rfl
  have l3 : lastT [g2, g3] = ⟨1, 0, 15, [2, 3]⟩ := t23
  rw [pay0 e4, e1, e2, e3, e5, e6, e7, t1, l3]; rfl
theorem st35 : stF (List.filter (ofA 5 30) [g1, g2, g3, g4]) = ⟨⟨2, 0, 8, [1]⟩, t0, ⟨1, 0, 15, [2, 3]⟩, ⟨2, 35, 29, [4]⟩, t0, t0, ⟨0, 0⟩, 2⟩ := by
  have e : List.filter (ofA 5 30) [g1, g2, g3, g4] = [g1, g2, g3, g4] := rfl
  rw [e]; unfold stF
  have e1 : fk [g1, g2, g3, g4] 1 = [g1] := rfl
  have e2 : fk [g1, g2, g3, g4] 2 = [] := rfl
  have e3 : fk [g1, g2, g3, g4] 3 = [g2, g3] := rfl
  have e4 : fk [g1, g2, g3, g4] 4 = [] := rfl
  have e5 : fk [g1, g2, g3, g4] 5 = [g4] := rfl
  have e6 : fk [g1, g2, g3, g4] 6 = [] := rfl
  have e7 : fk [g1, g2, g3, g4] 7 = [] := rfl
  have l3 : lastT [g2, g3] = ⟨1, 0, 15, [2, 3]⟩ := t23
  have l4 : lastT [g4] = ⟨2, 35, 29, [4]⟩ := t4
  rw [pay0 e4, e1, e2, e3, e5, e6, e7, t1, l3, l4]; rfl
theorem st60 : stF (List.filter (ofA 5 60) [g1, g2', g3, g7, g8, g9]) = ⟨⟨2, 0, 8, [1]⟩, t0, ⟨2, 520, 15, [2, 3]⟩, t0, t0, t0, ⟨100, 130⟩, 1⟩ := by
  have e : List.filter (ofA 5 60) [g1, g2', g3, g7, g8, g9] = [g1, g2', g3, g7, g8, g9] := rfl
  rw [e]; unfold stF
  have e1 : fk [g1, g2', g3, g7, g8, g9] 1 = [g1] := rfl
  have e2 : fk [g1, g2', g3, g7, g8, g9] 2 = [] := rfl
  have e3 : fk [g1, g2', g3, g7, g8, g9] 3 = [g2', g3] := rfl
  have e4 : fk [g1, g2', g3, g7, g8, g9] 4 = [g7, g8, g9] := rfl
  have e5 : fk [g1, g2', g3, g7, g8, g9] 5 = [] := rfl
  have e6 : fk [g1, g2', g3, g7, g8, g9] 6 = [] := rfl
  have e7 : fk [g1, g2', g3, g7, g8, g9] 7 = [] := rfl
  have l3 : lastT [g2', g3] = ⟨2, 520, 15, [2, 3]⟩ := t23'
  have p4 : payF [g1, g2', g3, g7, g8, g9] = ⟨100, 130⟩ := by
    unfold payF; rw [e4]
    have d : dl [g7, g8, g9] = [45] := rfl
    rw [d]; simp only [List.map_cons, List.map_nil, pd789]; rfl
  rw [p4, e1, e2, e3, e5, e6, e7, t1, l3]; rfl
theorem clash_no {F : List Report} {k : Int} {o : Bool} {f : Report} {r : List Report} (hk : k ≠ 4) (h : (told o (f :: r)).known ≠ 1) : clash F k o (f :: r) = [] := by
  show (if (if k = 4 then _ else _) then _ else _) = _
  rw [if_neg (by rw [if_neg hk]; exact h)]
theorem clash_pay {F : List Report} {o : Bool} {f : Report} {r : List Report} (h : (pd (fk F 4) f.about).lo ≠ (pd (fk F 4) f.about).hi) : clash F 4 o (f :: r) = [⟨4, f.about, sid (f :: r)⟩] := by
  show (if (if (4 : Int) = 4 then _ else _) then _ else _) = _
  rw [if_pos (by rw [if_pos rfl]; exact h)]
theorem cl60 : clF (List.filter (ofA 5 100000) [g1, g2', g3, g7, g8, g9]) = [⟨4, 45, [7, 8, 9]⟩] := by
  have e : List.filter (ofA 5 100000) [g1, g2', g3, g7, g8, g9] = [g1, g2', g3, g7, g8, g9] := rfl
  rw [e]
  have k7 : ks 7 = [1, 2, 3, 4, 5, 6, 7] := rfl
  have s789 : sid [g7, g8, g9] = [7, 8, 9] := sid_eq (by decide)
  have c1 : clK [g1, g2', g3, g7, g8, g9] 1 = [] := by
    have e1 : fk [g1, g2', g3, g7, g8, g9] 1 = [g1] := rfl
    unfold clK; rw [e1, if_pos (by decide)]; rw [clash_no (by decide) (by rw [t1]; decide)]
  have c2 : clK [g1, g2', g3, g7, g8, g9] 2 = [] := by
    have e1 : fk [g1, g2', g3, g7, g8, g9] 2 = [] := rfl
    unfold clK; rw [e1, if_neg (by decide)]; rfl
  have c3 : clK [g1, g2', g3, g7, g8, g9] 3 = [] := by
    have e1 : fk [g1, g2', g3, g7, g8, g9] 3 = [g2', g3] := rfl
    have e2 : dl [g2', g3] = [15] := rfl
    have e3 : grp [g2', g3] 15 = [g2', g3] := rfl
    unfold clK; rw [e1, if_neg (by decide), e2]; simp only [List.flatMap_cons, List.flatMap_nil, List.append_nil]; rw [e3]; rw [clash_no (by decide) (by rw [t23']; decide)]
  have c4 : clK [g1, g2', g3, g7, g8, g9] 4 = [⟨4, 45, [7, 8, 9]⟩] := by
    have e1 : fk [g1, g2', g3, g7, g8, g9] 4 = [g7, g8, g9] := rfl
    have e2 : dl [g7, g8, g9] = [45] := rfl
    have e3 : grp [g7, g8, g9] 45 = [g7, g8, g9] := rfl
    unfold clK; rw [e1, if_neg (by decide), e2]; simp only [List.flatMap_cons, List.flatMap_nil, List.append_nil]; rw [e3]; rw [clash_pay (by rw [e1]; show (pd [g7, g8, g9] 45).lo ≠ (pd [g7, g8, g9] 45).hi; rw [pd789]; decide), s789]; rfl
  have c5 : clK [g1, g2', g3, g7, g8, g9] 5 = [] := by
    have e1 : fk [g1, g2', g3, g7, g8, g9] 5 = [] := rfl
    unfold clK; rw [e1, if_neg (by decide)]; rfl
  have c6 : clK [g1, g2', g3, g7, g8, g9] 6 = [] := by
    have e1 : fk [g1, g2', g3, g7, g8, g9] 6 = [] := rfl
    unfold clK; rw [e1, if_pos (by decide)]; rfl
  have c7 : clK [g1, g2', g3, g7, g8, g9] 7 = [] := by
    have e1 : fk [g1, g2', g3, g7, g8, g9] 7 = [] := rfl
    unfold clK; rw [e1, if_pos (by decide)]; rfl
  unfold clF; rw [k7]; simp only [List.flatMap_cons, List.flatMap_nil, c1, c2, c3, c4, c5, c6, c7, List.nil_append, List.append_nil]
theorem ft45 : ftOf (kn9 45) 4 = (2, 6, 0) := by
  have hK := (kw9 45).ok
  have h4 : g4 ∈ kn9 45 := by simp [kn9, ex9, g4]
  have hw : wd (kn9 45) 4 = some 6 := wd_is ⟨⟨6, 70, 5, 41, 0, 9, 0, 4⟩, by simp [kn9, ex9], (wdB_iff (by simp [kn9, ex9])).1 (by kernel_rfl), rfl, fun s hs hw => by
    have hb := (wdB_iff hs).2 hw
    have : s = g1 ∨ s = g2 ∨ s = g3 ∨ s = g4 ∨ s = ⟨5, 70, 5, 40, 15, 8, 520, 2⟩ ∨ s = ⟨6, 70, 5, 41, 0, 9, 0, 4⟩ := by simpa [kn9, ex9, g1, g2, g3, g4] using hs
    have h9 := hw.2.1
    rcases this with rfl | rfl | rfl | rfl | rfl | rfl <;> first | exact absurd h9 (by decide) | exact Int.le_refl _⟩
  have ha : atI (kn9 45) 4 = some g4 := atI_some hK h4
  unfold ftOf; rw [ha]; dsimp only
  rw [if_neg (by decide), hw]
theorem p_told {k c s : Int} {b : List Int} : P.law03_told k c s b = some ⟨k, c, s, b⟩ := rfl
theorem alive_is : P.law03_alive = some true := by
  apply Ret.yes
  unfold P.law03_alive
  rw [p_reports]
  refine Ret.bind (Ret.ok (Ret.bind (r_State1 ex9_in ex9_chk rfl fun F hF => ?_)))
  obtain rfl := hF.uniq fc25 fun _ => Iff.rfl
  rw [st25]; dsimp only
  refine Ret.bind (Ret.ok (Ret.bind (r_State1 ex9_in ex9_chk rfl fun F hF => ?_)))
  obtain rfl := hF.uniq fc35 fun _ => Iff.rfl
  rw [st35]; dsimp only
  refine Ret.bind (Ret.ok (Ret.bind (r_State1 ex9_in ex9_chk rfl fun F hF => ?_)))
  obtain rfl := hF.uniq fc60 fun _ => Iff.rfl
  rw [st60]; dsimp only
  refine Ret.bind (Ret.ok (Ret.bind (r_Fate1 ex9_in ex9_chk rfl fun K hK => ?_)))
  rw [ftOf_pm hK.ok (kw9 45).ok (hK.perm (kw9 45)), ft45]; dsimp only
  refine Ret.bind (Ret.ok (Ret.bind (r_Clashes1 ex9_in ex9_chk rfl fun F hF => ?_)))
  obtain rfl := hF.uniq fc60 fun _ => Iff.rfl
  rw [cl60]; dsimp only
  refine Ret.bind (Ret.ok (Ret.bind (r_Standing1 ex9_in ex9_chk rfl fun F hF => ?_)))
  obtain rfl := hF.uniq fc45 fun _ => Iff.rfl
  dsimp only
  simp only [p_told]
  have few {s : State} (h : s.opened.by_.length + s.limit.by_.length + s.owed.by_.length + s.late.by_.length + s.default.by_.length + s.closed.by_.length ≤ 100) : Few s := by
    refine ⟨?_, ?_, ?_, ?_, ?_, ?_⟩ <;> omega
  refine Ret.bind (Ret.ok ?_)
  refine Ret.bind ?_
  refine Ret.condT rfl (Ret.bind (Ret.ok ?_))
  refine Ret.bind (Ret.val (r_sameS (few (by decide))) ?_)
  refine Ret.condT rfl (Ret.condT rfl (Ret.bind (Ret.ok (Ret.bind (Ret.ok ?_)))))
  refine Ret.bind (Ret.val (r_sameS (few (by decide))) ?_)
  refine Ret.condT rfl (Ret.condT rfl (Ret.bind (Ret.ok ?_)))
  refine Ret.bind (Ret.val (r_sameS (few (by decide))) ?_)
  refine Ret.condT rfl (Ret.condT rfl (Ret.condT rfl (Ret.condT rfl (Ret.condT rfl ?_))))
  refine Ret.bind (Ret.val (r_sameC (by decide) (by decide)) ?_)
  refine Ret.condT rfl (Ret.condT rfl (Ret.condT rfl ?_))
  refine Ret.bind (Ret.ok ?_)
  refine Ret.bind (Ret.ok ?_)
  exact Ret.ok (Ret.ok rfl)
end S
end Go.Proofs.YtepjkmoipjeghaaDoor
namespace Go.Proofs.YtepjkmoipjeghaaDoor
open Go Go.Sx
namespace S
section
variable {l : List Report} (hin : ∀ r ∈ l, InR r)
include hin
theorem r_ready {id : Int} {days : List Int} (hl : days.length ≤ 1000000) {Q : Bool → Prop} (hF : Q false) (hT : chkE l = 0 → inB 0 999999 id = true → (∀ d ∈ days, inB 0 100000 d = true) → Q true) : Ret (P.law03_ready l id days) Q := by
  unfold P.law03_ready
  refine Ret.bind (Ret.cond (fun _ => Ret.ok (Ret.condT rfl (Ret.ok hF))) fun h0 => ?_)
  refine Ret.bind (r_rcheck hin ?_)
  refine Ret.cond (fun _ => Ret.ok (Ret.condT rfl (Ret.ok hF))) fun h1 => ?_
  refine Ret.cond (fun _ => Ret.ok (Ret.condT rfl (Ret.ok hF))) fun h2 => ?_
  refine Ret.ok (Ret.cond (fun _ => Ret.ok hF) fun h3 => ?_)
  have c : chkE l = 0 := by simpa using h1
  have hid : inB 0 999999 id = true := by
    have h2 := of_decide_eq_false h2
    have h3 := of_decide_eq_false h3
    exact decide_eq_true ⟨by omega, by omega⟩
  refine Ret.bind (Ret.loop (fun t : Int => ∃ n : Nat, t = n ∧ n ≤ days.length ∧ ∀ d ∈ days.take n, inB 0 100000 d = true) (fun t => days.length - t.toNat) ⟨0, rfl, Nat.zero_le _, fun a ha => by simp at ha⟩ ?_)
  rintro _ ⟨n, rfl, hn, hv⟩
  refine Ret.cond (fun h => ?_) fun h => ?_
  · have hlt : n < days.length := by have := of_decide_eq_true h; omega
    refine Ret.bind (Ret.ixo (List.getElem?_eq_getElem hlt) ?_)
    refine Ret.bind (Ret.cond (fun _ => Ret.ok (Ret.condT rfl (Ret.done (Ret.elimR (Ret.ok hF))))) fun e => ?_)
    refine Ret.ok (Ret.cond (fun _ => Ret.done (Ret.elimR (Ret.ok hF))) fun e2 => ?_)
    refine Ret.bind (Ret.chk (by omega) (Ret.next ⟨⟨n + 1, by omega, by omega, fun d hd => ?_⟩, by omega⟩))
    rw [take_snoc hlt, List.mem_append] at hd
    rcases hd with hd | hd
    · exact hv d hd
    · obtain rfl : d = days[n] := by simpa using hd
      have e := of_decide_eq_false e
      have e2 := of_decide_eq_false e2
      exact decide_eq_true ⟨by omega, by omega⟩
  · have hge : n = days.length := by have := of_decide_eq_false h; omega
    subst hge
    rw [List.take_length] at hv
    exact Ret.done (Ret.elimL (Ret.ok (hT c hid hv)))
end
theorem in3 {id day known : Int} (h1 : inB 0 999999 id = true) (h2 : ∀ d ∈ [day, known], inB 0 100000 d = true) : (inB 0 999999 id && (inB 0 100000 day && inB 0 100000 known)) = true := by
  rw [h1, h2 day (by simp), h2 known (by simp)]; rfl
theorem in2 {id day known : Int} (h1 : inB 0 999999 id = true) (h2 : ∀ d ∈ [day, known], inB 0 100000 d = true) : (inB 0 999999 id && inB 0 100000 known) = true := by
  rw [h1, h2 known (by simp)]; rfl
theorem r_find {l : List Report} (hl : l.length ≤ 1000000) {i : Int} {Q : Report × Bool → Prop} (h1 : ∀ r ∈ l, r.id = i → Q (r, true)) (h2 : (∀ r ∈ l, r.id ≠ i) → ∀ r, Q (r, false)) : Ret (P.law03_find l i) Q := by
  unfold P.law03_find
  refine Ret.bind (Ret.loop (fun t : Int => ∃ n : Nat, t = n ∧ n ≤ l.length ∧ ∀ r ∈ l.take n, r.id ≠ i) (fun t => l.length - t.toNat) ⟨0, rfl, Nat.zero_le _, fun a ha => by simp at ha⟩ ?_)
  rintro _ ⟨n, rfl, hn, hv⟩
  refine Ret.cond (fun h => ?_) fun h => ?_
  · have hlt : n < l.length := by have := of_decide_eq_true h; omega
    refine Ret.bind (Ret.ixo (List.getElem?_eq_getElem hlt) ?_)
    refine Ret.cond (fun e => ?_) fun e => ?_
    · exact Ret.done (Ret.elimR (Ret.ok (h1 _ (List.getElem_mem hlt) (of_decide_eq_true e))))
    · refine Ret.bind (Ret.chk (by omega) (Ret.next ⟨⟨n + 1, by omega, by omega, fun r hr => ?_⟩, by omega⟩))
      rw [take_mem hlt] at hr
      rcases hr with hr | rfl
      · exact hv r hr
      · exact of_decide_eq_false e
  · have hge : n = l.length := by have := of_decide_eq_false h; omega
    subst hge
    rw [List.take_length] at hv
    exact Ret.done (Ret.elimL (Ret.ok (h2 hv _)))
end S
end Go.Proofs.YtepjkmoipjeghaaDoor
namespace Go.Proofs.YtepjkmoipjeghaaDoor
open Go Go.Sx
namespace S
/-! Withdrawals that come in besides. -/
theorem take_mem' {l : List Int} {n : Nat} (h : n < l.length) {x : Int} : x ∈ l.take (n + 1) ↔ x ∈ l.take n ∨ x = l[n] := by
  rw [take_snoc h, List.mem_append, List.mem_singleton]
/-! What a thing is told by. -/
def tk (G : List Report) (k : Int) : Told := if k = 1 ∨ k = 6 ∨ k = 7 then told true (fk G k) else lastT (fk G k)
/-- All of Y tell the same. -/
def Same (Y : List Report) : Prop := ∀ a ∈ Y, ∀ b ∈ Y, a.cents = b.cents ∧ a.about = b.about
structure Tells (only : Bool) (X : List Report) (t : Told) (Y : List Report) : Prop where
  sub : Y.Sublist X
  by_ : t.by_ = sid Y
  ne : X ≠ [] → Y ≠ []
  all : only = true → Y = X
  day : only = false → ∀ r, r ∈ Y ↔ r ∈ X ∧ r.about = t.since
  first : ∀ r ∈ Y, t.since ≤ r.about
  last : only = false → ∀ r ∈ X, r.about ≤ t.since
  no : Y = [] → t = ⟨0, 0, 0, []⟩
  yes : Y ≠ [] → Same Y → t.known = 2 ∧ ∀ a ∈ Y, t.cents = a.cents ∧ t.since = a.about
  dif : Y ≠ [] → ¬ Same Y → t.known = 1 ∧ t.cents = 0
theorem tells_told {only : Bool} {Y : List Report} (hY : FO Y) (hd : only = false → ∀ a ∈ Y, ∀ b ∈ Y, a.about = b.about) :
    (told only Y).by_ = sid Y ∧ (∀ r ∈ Y, (told only Y).since ≤ r.about) ∧ (∃ f, Y.head? = some f ∧ (told only Y).since = f.about ∨ Y = []) ∧ (Y = [] → told only Y = ⟨0, 0, 0, []⟩) ∧ (Y ≠ [] → Same Y → (told only Y).known = 2 ∧ ∀ a ∈ Y, (told only Y).cents = a.cents ∧ (told only Y).since = a.about) ∧ (Y ≠ [] → ¬ Same Y → (told only Y).known = 1 ∧ (told only Y).cents = 0) := by
  cases Y with
  | nil => exact ⟨by simp [sid, told], (fun _ h => by cases h), ⟨⟨0, 0, 0, 0, 0, 0, 0, 0⟩, .inr rfl⟩, fun _ => rfl, fun h => absurd rfl h, fun h => absurd rfl h⟩
  | cons f Y =>
    have hh : ∀ r ∈ f :: Y, f.about ≤ r.about := le_head hY.s
    have hag : (f :: Y).all (ag only f) = true ↔ Same (f :: Y) := by
      rw [List.all_eq_true]
      constructor
      · intro h
        have h1 : ∀ a ∈ f :: Y, a.cents = f.cents ∧ a.about = f.about := fun a ha => by
          have := h a ha
          unfold ag at this
          cases only with
          | true => simpa using this
          | false => exact ⟨by simpa using this, hd rfl a ha f (List.mem_cons_self ..)⟩
        intro a ha b hb
        have := h1 a ha
        have := h1 b hb
        omega
      · intro h a ha
        obtain ⟨h1, h2⟩ := h a ha f (List.mem_cons_self ..)
        unfold ag; simp [h1, h2]
    rw [told_cons]
    by_cases c : (f :: Y).all (ag only f) = true
    · rw [if_pos c]
      refine ⟨rfl, hh, ⟨f, .inl ⟨rfl, rfl⟩⟩, fun h => (List.cons_ne_nil _ _ h).elim, fun _ _ => ⟨rfl, fun a ha => ?_⟩, fun _ h => absurd (hag.1 c) h⟩
      obtain ⟨h1, h2⟩ := hag.1 c f (List.mem_cons_self ..) a ha
      exact ⟨h1, h2⟩
    · rw [if_neg c]
      exact ⟨rfl, hh, ⟨f, .inl ⟨rfl, rfl⟩⟩, fun h => (List.cons_ne_nil _ _ h).elim, fun _ h => absurd (hag.2 h) c, fun _ _ => ⟨rfl, rfl⟩⟩
theorem tells_once {X : List Report} (hX : FO X) : Tells true X (told true X) X := by
  obtain ⟨h1, h2, _, h4, h5, h6⟩ := tells_told (only := true) hX (fun h => by cases h)
  exact ⟨List.Sublist.refl _, h1, id, fun _ => rfl, (fun h => by cases h), h2, (fun h => by cases h), h4, h5, h6⟩
theorem tells_last {X : List Report} (hX : FO X) : ∃ Y, Tells false X (lastT X) Y := by
  unfold lastT
  cases hz : X.getLast? with
  | none =>
    have : X = [] := List.getLast?_eq_none_iff.1 hz
    subst this
    exact ⟨[], List.Sublist.refl _, by simp [sid, told], id, fun _ => rfl, (fun _ r => by simp), (fun _ h => by cases h), (fun _ _ h => by cases h), fun _ => rfl, fun h => absurd rfl h, fun h => absurd rfl h⟩
  | some z =>
    have hzm : z ∈ X := List.mem_of_getLast? hz
    have hg : FO (grp X z.about) := hX.filter _
    have hmem : ∀ r, r ∈ grp X z.about ↔ r ∈ X ∧ r.about = z.about := fun r => by unfold grp; rw [List.mem_filter, decide_eq_true_eq]
    obtain ⟨h1, h2, ⟨f, h3⟩, h4, h5, h6⟩ := tells_told (only := false) hg (fun _ a ha b hb => by rw [((hmem a).1 ha).2, ((hmem b).1 hb).2])
    have hzg : z ∈ grp X z.about := (hmem z).2 ⟨hzm, rfl⟩
    have hne : grp X z.about ≠ [] := List.ne_nil_of_mem hzg
    have hs : (told false (grp X z.about)).since = z.about := by
      rcases h3 with ⟨h3, h7⟩ | h3
      · rw [h7]
        exact ((hmem f).1 (List.mem_of_head? h3)).2
      · exact absurd h3 hne
    refine ⟨grp X z.about, List.filter_sublist, h1, fun _ => hne, fun h => (by cases h), fun _ r => by rw [hs]; exact hmem r, h2, fun _ r hr => ?_, h4, h5, h6⟩
    rw [hs]
    obtain ⟨n, hn⟩ : ∃ n, n + 1 = X.length := ⟨X.length - 1, by have := List.length_pos_of_mem hzm; omega⟩
    have := le_last hX.s hn hr
    rw [List.getLast?_eq_getElem?, show X.length - 1 = n by omega, List.getElem?_eq_getElem (by omega)] at hz
    rw [← Option.some.inj hz]; exact this
theorem tells {G : List Report} (hG : FO G) (k : Int) : ∃ Y, Tells (decide (k = 1 ∨ k = 6 ∨ k = 7)) (fk G k) (tk G k) Y := by
  unfold tk
  by_cases c : k = 1 ∨ k = 6 ∨ k = 7
  · rw [if_pos c, decide_eq_true c]; exact ⟨_, tells_once (hG.filter _)⟩
  · rw [if_neg c, decide_eq_false c]; exact tells_last (hG.filter _)
end S
end Go.Proofs.YtepjkmoipjeghaaDoor
namespace Go.Proofs.YtepjkmoipjeghaaDoor
open Go Go.Sx
namespace S
def kinds : List Int := [1, 2, 3, 5, 6, 7]
theorem th_st (G : List Report) : P.law03_things (stF G) = some (kinds.map (tk G), kinds) := by
  show some _ = some _
  simp [tk, stF, kinds]
theorem sid_lt {Y : List Report} (nd : (Y.map (·.id)).Nodup) {n : Nat} (h : n + 1 < (sid Y).length) : (sid Y)[n]'(by omega) < (sid Y)[n + 1] := by
  have h1 := List.pairwise_iff_getElem.1 (sid_sorted Y) n (n + 1) (by omega) h (by omega)
  have hn : (sid Y).Nodup := (sid_perm Y).nodup_iff.2 nd
  have h2 := List.pairwise_iff_getElem.1 hn n (n + 1) (by omega) h (by omega)
  omega
theorem sid_mem {Y : List Report} {k : Int} : k ∈ sid Y ↔ ∃ y ∈ Y, y.id = k := by
  rw [(sid_perm Y).mem_iff, List.mem_map]
section
variable {F Y : List Report} (hF : FO F) (hY : ∀ y ∈ Y, y ∈ F)
include hF hY
theorem r_findY {k : Int} (hk : k ∈ sid Y) {Q : Report × Bool → Prop} (h : ∀ r ∈ Y, r.id = k → Q (r, true)) : Ret (P.law03_find F k) Q := by
  obtain ⟨y, hy, e⟩ := sid_mem.1 hk
  have := hF.len
  refine r_find (by omega) (fun r hr he => ?_) fun hn => absurd e (hn y (hY y hy))
  have : y = r := ids_one hF.nd (hY y hy) hr (by rw [e, he])
  subst this
  exact h y hy he
end
end S
end Go.Proofs.YtepjkmoipjeghaaDoor
namespace Go.Proofs.YtepjkmoipjeghaaDoor
open Go Go.Sx
namespace S
/-! Facts that come in besides. -/
/-! Sums. -/
/-! Days. -/
theorem min_ex {f : Report → Int} : ∀ {g : List Report}, g ≠ [] → ∃ r ∈ g, ∀ s ∈ g, f r ≤ f s
  | [], h => absurd rfl h
  | [r], _ => ⟨r, List.mem_cons_self .., fun s hs => by simp at hs; rw [hs]; exact Int.le_refl _⟩
  | r :: x :: g, _ => by
    obtain ⟨y, hy, h⟩ := min_ex (f := f) (g := x :: g) (by simp)
    rcases Int.le_total (f r) (f y) with c | c
    · refine ⟨r, List.mem_cons_self .., fun s hs => ?_⟩
      rcases List.mem_cons.1 hs with rfl | hs
      · exact Int.le_refl _
      · exact Int.le_trans c (h s hs)
    · refine ⟨y, List.mem_cons_of_mem _ hy, fun s hs => ?_⟩
      rcases List.mem_cons.1 hs with rfl | hs
      · exact c
      · exact h s hs
theorem grp_mem {L : List Report} {d : Int} {r : Report} : r ∈ grp L d ↔ r ∈ L ∧ r.about = d := by
  unfold grp; rw [List.mem_filter, decide_eq_true_eq]
theorem pd_ex {L : List Report} {d : Int} (h : d ∈ dl L) : Pd L d (pd L d) := by
  obtain ⟨r, hr, e⟩ := dl_mem.1 h
  have hne : grp L d ≠ [] := List.ne_nil_of_mem (grp_mem.2 ⟨hr, e⟩)
  obtain ⟨a, ha, h1⟩ := min_ex (f := fun r => sumL L d r.source) hne
  obtain ⟨b, hb, h2⟩ := min_ex (f := fun r => - sumL L d r.source) hne
  have hp : Pd L d ⟨sumL L d a.source, sumL L d b.source⟩ := ⟨⟨a, ha, rfl⟩, ⟨b, hb, rfl⟩, fun s hs => ⟨h1 s hs, by have := h2 s hs; dsimp only; omega⟩⟩
  rw [pd_is hp]; exact hp
/-! All payments of a source once more. -/
end S
end Go.Proofs.YtepjkmoipjeghaaDoor
namespace Go.Proofs.YtepjkmoipjeghaaDoor
open Go Go.Sx
namespace S
theorem clash_mem {F : List Report} {k : Int} {o : Bool} {g : List Report} {x : Clash} : x ∈ clash F k o g ↔ ∃ f r, g = f :: r ∧ (k = 4 → (pd (fk F 4) f.about).lo ≠ (pd (fk F 4) f.about).hi) ∧ (k ≠ 4 → (told o g).known = 1) ∧ x = ⟨k, f.about, sid g⟩ := by
  cases g with
  | nil => simp [clash]
  | cons f r =>
    have e : clash F k o (f :: r) = if (if k = 4 then (pd (fk F 4) f.about).lo ≠ (pd (fk F 4) f.about).hi else (told o (f :: r)).known = 1) then [⟨k, f.about, sid (f :: r)⟩] else [] := rfl
    rw [e]
    by_cases c : (if k = 4 then (pd (fk F 4) f.about).lo ≠ (pd (fk F 4) f.about).hi else (told o (f :: r)).known = 1)
    · rw [if_pos c]
      constructor
      · intro h
        refine ⟨f, r, rfl, fun e => ?_, fun e => ?_, List.mem_singleton.1 h⟩
        · rwa [if_pos e] at c
        · rwa [if_neg e] at c
      · rintro ⟨f', r', e', _, _, hx⟩
        cases e'
        exact List.mem_singleton.2 hx
    · rw [if_neg c]
      constructor
      · intro h; cases h
      · rintro ⟨f', r', e', h1, h2, hx⟩
        cases e'
        refine absurd ?_ c
        by_cases e : k = 4
        · rw [if_pos e]; exact h1 e
        · rw [if_neg e]; exact h2 e
theorem clF_mem {G : List Report} {x : Clash} : x ∈ clF G ↔ ∃ k, (1 ≤ k ∧ k ≤ 7) ∧ x ∈ clK G k := by
  unfold clF
  rw [List.mem_flatMap]
  constructor
  · rintro ⟨k, hk, hx⟩
    refine ⟨k, ?_, hx⟩
    unfold ks at hk
    obtain ⟨i, hi, rfl⟩ := List.mem_map.1 hk
    have := List.mem_range.1 hi
    omega
  · rintro ⟨k, hk, hx⟩
    refine ⟨k, ?_, hx⟩
    unfold ks
    exact List.mem_map.2 ⟨(k - 1).toNat, List.mem_range.2 (by omega), by omega⟩
theorem clK_mem {G : List Report} {k : Int} {x : Clash} : x ∈ clK G k ↔ (onlyK k = true ∧ x ∈ clash G k true (fk G k)) ∨ (onlyK k = false ∧ ∃ d ∈ dl (fk G k), x ∈ clash G k false (grp (fk G k) d)) := by
  unfold clK
  cases h : onlyK k with
  | true => simp
  | false => simp [List.mem_flatMap]
theorem not_same {only : Bool} {g : List Report} (hg : FO g) (hd : only = false → ∀ a ∈ g, ∀ b ∈ g, a.about = b.about) : (told only g).known = 1 ↔ g ≠ [] ∧ ¬ Same g := by
  obtain ⟨_, _, _, h4, h5, h6⟩ := tells_told hg hd
  constructor
  · intro h
    have hne : g ≠ [] := fun e => by rw [h4 e] at h; cases h
    exact ⟨hne, fun hs => by rw [(h5 hne hs).1] at h; cases h⟩
  · rintro ⟨h1, h2⟩; exact (h6 h1 h2).1
theorem grp_day {L : List Report} {d : Int} : ∀ a ∈ grp L d, ∀ b ∈ grp L d, a.about = b.about := fun a ha b hb => by rw [(grp_mem.1 ha).2, (grp_mem.1 hb).2]
/-- What each clash is of. -/
theorem clF_of {G : List Report} (hG : FO G) {x : Clash} (hx : x ∈ clF G) : (1 ≤ x.kind ∧ x.kind ≤ 7) ∧ ∃ g, FO g ∧ (∀ y ∈ g, y ∈ G ∧ y.kind = x.kind ∧ x.about ≤ y.about) ∧ x.by_ = sid g ∧ (x.kind = 4 → ∃ a ∈ g, ∃ b ∈ g, a.source ≠ b.source) ∧ (x.kind ≠ 4 → ¬ Same g) := by
  obtain ⟨k, hk, hx⟩ := clF_mem.1 hx
  have fk_in : ∀ y ∈ fk G k, y ∈ G ∧ y.kind = k := fun y hy => by unfold fk at hy; simpa using hy
  have hf : FO (fk G k) := hG.filter _
  rcases clK_mem.1 hx with ⟨ho, hx⟩ | ⟨ho, d, hd, hx⟩
  · obtain ⟨f, r, e, h1, h2, rfl⟩ := clash_mem.1 hx
    have h4 : k ≠ 4 := fun e => by subst e; cases ho
    refine ⟨hk, fk G k, hf, fun y hy => ⟨(fk_in y hy).1, (fk_in y hy).2, ?_⟩, rfl, fun e => absurd e h4, fun _ => ((not_same hf (fun h => by cases h)).1 (h2 h4)).2⟩
    rw [e] at hf hy
    exact le_head hf.s y hy
  · obtain ⟨f, r, e, h1, h2, rfl⟩ := clash_mem.1 hx
    have hg : FO (grp (fk G k) d) := hf.filter _
    have hfd : f.about = d := (grp_mem.1 (by rw [e]; exact List.mem_cons_self ..)).2
    refine ⟨hk, grp (fk G k) d, hg, fun y hy => ⟨(fk_in y (grp_mem.1 hy).1).1, (fk_in y (grp_mem.1 hy).1).2, ?_⟩, rfl, fun e4 => ?_, fun h4 => ((not_same hg fun _ => grp_day).1 (h2 h4)).2⟩
    · dsimp only; rw [hfd, (grp_mem.1 hy).2]; exact Int.le_refl _
    · have e4 : k = 4 := e4
      subst e4
      have hne := h1 rfl
      rw [hfd] at hne
      obtain ⟨⟨a, ha, ea⟩, ⟨b, hb, eb⟩, _⟩ := pd_ex hd
      exact ⟨a, ha, b, hb, fun es => hne (by rw [← ea, ← eb, es])⟩
theorem dl_sorted {L : List Report} (hs : L.Pairwise le) : (dl L).Pairwise (· < ·) := by
  have key : ∀ n, n ≤ L.length → (dl (L.take n)).Pairwise (· < ·) := by
    intro n
    induction n with
    | zero => intro _; exact List.Pairwise.nil
    | succ n ih =>
      intro hn
      have hlt : n < L.length := by omega
      rw [take_snoc hlt, dl_snoc]
      split
      · exact ih (by omega)
      · rename_i hno
        rw [List.pairwise_append]
        refine ⟨ih (by omega), List.pairwise_singleton _ _, fun a ha b hb => ?_⟩
        rw [List.mem_singleton] at hb
        subst hb
        obtain ⟨r, hr, rfl⟩ := dl_mem.1 ha
        obtain ⟨i, hi, e⟩ := List.getElem_of_mem hr
        have hin : i < n := by simp at hi; omega
        rw [List.getElem_take] at e
        have h1 := List.pairwise_iff_getElem.1 hs i n (by omega) hlt hin
        rw [e] at h1
        have h2 : r.about ≠ L[n].about := fun e => hno (by rw [← e]; exact ha)
        unfold le at h1
        omega
  have := key L.length (Nat.le_refl _)
  rwa [List.take_length] at this
def clt (x y : Clash) : Prop := x.kind < y.kind ∨ x.kind = y.kind ∧ x.about < y.about
theorem clash_pair {F : List Report} {k : Int} {o : Bool} {g : List Report} : (clash F k o g).Pairwise clt := by
  have := clash_len F k o g
  cases h : clash F k o g with
  | nil => exact List.Pairwise.nil
  | cons x r =>
    rw [h] at this
    have : r = [] := List.eq_nil_of_length_eq_zero (by rw [List.length_cons] at this; omega)
    subst this
    exact List.pairwise_singleton _ _
theorem clK_kind {G : List Report} {k : Int} {x : Clash} (hx : x ∈ clK G k) : x.kind = k := by
  rcases clK_mem.1 hx with ⟨_, hx⟩ | ⟨_, d, _, hx⟩
  · obtain ⟨_, _, _, _, _, rfl⟩ := clash_mem.1 hx; rfl
  · obtain ⟨_, _, _, _, _, rfl⟩ := clash_mem.1 hx; rfl
theorem clF_sorted {G : List Report} (hG : FO G) : (clF G).Pairwise clt := by
  unfold clF
  rw [List.pairwise_flatMap]
  refine ⟨fun k _ => ?_, ?_⟩
  · unfold clK
    split
    · exact clash_pair
    · rw [List.pairwise_flatMap]
      refine ⟨fun d _ => clash_pair, (dl_sorted (hG.filter _).s).imp fun {a b} h x hx y hy => ?_⟩
      obtain ⟨f, r, e, _, _, rfl⟩ := clash_mem.1 hx
      obtain ⟨f', r', e', _, _, rfl⟩ := clash_mem.1 hy
      have h1 : f.about = a := (grp_mem.1 (by rw [e]; exact List.mem_cons_self ..)).2
      have h2 : f'.about = b := (grp_mem.1 (by rw [e']; exact List.mem_cons_self ..)).2
      exact .inr ⟨rfl, by dsimp only; omega⟩
  · have : (ks 7).Pairwise (· < ·) := by decide
    exact this.imp fun {a b} h x hx y hy => .inl (by rw [clK_kind hx, clK_kind hy]; exact h)
/-! What is open clashes. -/
section
variable {F : List Report} (hF : FO F) {id day : Int} (hday : day ≤ 100000)
include hF hday
omit hF in
theorem ofA_up {r : Report} (h : ofA id day r = true) : ofA id 100000 r = true := by
  unfold ofA at h ⊢
  simp at h ⊢
  exact ⟨h.1, by omega⟩
omit hF in
theorem grp_up {k d : Int} (hd : d ≤ day) : grp (fk (F.filter (ofA id 100000)) k) d = grp (fk (F.filter (ofA id day)) k) d := by
  unfold grp fk
  rw [List.filter_filter, List.filter_filter, List.filter_filter, List.filter_filter]
  refine List.filter_congr fun r _ => ?_
  rw [Bool.eq_iff_iff]
  unfold ofA
  simp
  intro h1 h2 h3
  omega
theorem open_clash {k : Int} (hk : 1 ≤ k ∧ k ≤ 7) (h4 : k ≠ 4) {b : Bool} (hb : b = decide (k = 1 ∨ k = 6 ∨ k = 7)) {t : Told} {Y : List Report} (hT : Tells b (fk (F.filter (ofA id day)) k) t Y) (ht : t.known = 1) : ∃ x ∈ clF (F.filter (ofA id 100000)), x.kind = k ∧ x.about ≤ day := by
  have hGS : FO (F.filter (ofA id day)) := hF.filter _
  have hGC : FO (F.filter (ofA id 100000)) := hF.filter _
  have hne : Y ≠ [] := fun e => by rw [hT.no e] at ht; cases ht
  have hns : ¬ Same Y := fun hs => by rw [(hT.yes hne hs).1] at ht; cases ht
  have inS : ∀ y ∈ fk (F.filter (ofA id day)) k, y ∈ fk (F.filter (ofA id 100000)) k ∧ y.about ≤ day := fun y hy => by
    unfold fk at hy ⊢
    rw [List.mem_filter, List.mem_filter] at hy
    refine ⟨List.mem_filter.2 ⟨List.mem_filter.2 ⟨hy.1.1, ofA_up hday hy.1.2⟩, hy.2⟩, ?_⟩
    have := hy.1.2
    unfold ofA at this
    simp at this
    exact this.2
  obtain ⟨y0, hy0⟩ := List.exists_mem_of_ne_nil _ hne
  cases hbb : b with
  | true =>
    have ho : onlyK k = true := by unfold onlyK; rw [← hb, hbb]
    rw [hbb] at hT
    have e := hT.all rfl
    have hf : FO (fk (F.filter (ofA id 100000)) k) := hGC.filter _
    have hin0 := inS y0 (hT.sub.subset hy0)
    have hkn : (told true (fk (F.filter (ofA id 100000)) k)).known = 1 := (not_same hf (fun h => by cases h)).2 ⟨List.ne_nil_of_mem hin0.1, fun hs => hns fun a ha c hc => by
      rw [e] at ha hc
      exact hs a (inS a ha).1 c (inS c hc).1⟩
    cases hg : fk (F.filter (ofA id 100000)) k with
    | nil => rw [hg] at hin0; cases hin0.1
    | cons f r =>
      refine ⟨⟨k, f.about, sid (fk (F.filter (ofA id 100000)) k)⟩, clF_mem.2 ⟨k, hk, clK_mem.2 (.inl ⟨ho, clash_mem.2 ⟨f, r, hg, fun e => absurd e h4, fun _ => hkn, rfl⟩⟩)⟩, rfl, ?_⟩
      rw [hg] at hf hin0
      have := le_head hf.s y0 hin0.1
      dsimp only
      omega
  | false =>
    have ho : onlyK k = false := by unfold onlyK; rw [← hb, hbb]
    rw [hbb] at hT
    have hd := hT.day rfl
    have hy0' := (hd y0).1 hy0
    have hle : t.since ≤ day := by have := (inS y0 hy0'.1).2; omega
    have hYg : ∀ r, r ∈ Y ↔ r ∈ grp (fk (F.filter (ofA id 100000)) k) t.since := fun r => by
      rw [grp_up hday hle, grp_mem, hd]
    have hf : FO (grp (fk (F.filter (ofA id 100000)) k) t.since) := (hGC.filter _).filter _
    have hkn : (told false (grp (fk (F.filter (ofA id 100000)) k) t.since)).known = 1 := (not_same hf fun _ => grp_day).2 ⟨List.ne_nil_of_mem ((hYg y0).1 hy0), fun hs => hns fun a ha c hc => hs a ((hYg a).1 ha) c ((hYg c).1 hc)⟩
    have hdl : t.since ∈ dl (fk (F.filter (ofA id 100000)) k) := dl_mem.2 ⟨y0, (grp_mem.1 ((hYg y0).1 hy0)).1, hy0'.2⟩
    cases hg : grp (fk (F.filter (ofA id 100000)) k) t.since with
    | nil => have := (hYg y0).1 hy0; rw [hg] at this; cases this
    | cons f r =>
      have hfa : f.about = t.since := (grp_mem.1 (by rw [hg]; exact List.mem_cons_self ..)).2
      exact ⟨⟨k, f.about, sid (grp (fk (F.filter (ofA id 100000)) k) t.since)⟩, clF_mem.2 ⟨k, hk, clK_mem.2 (.inr ⟨ho, t.since, hdl, clash_mem.2 ⟨f, r, hg, fun e => absurd e h4, fun _ => hkn, rfl⟩⟩)⟩, rfl, by dsimp only; omega⟩
omit hF in
theorem sumL_grp {L L' : List Report} {d : Int} (h : grp L d = grp L' d) (s : Int) : sumL L d s = sumL L' d s := by
  have e : ∀ L : List Report, (L.filter fun r => decide (r.about = d) && decide (r.source = s)) = (grp L d).filter fun r => decide (r.source = s) := fun L => by
    unfold grp
    rw [List.filter_filter]
    exact List.filter_congr fun r _ => Bool.and_comm _ _
  unfold sumL
  rw [e, e, h]
theorem paid_clash (hne : (stF (F.filter (ofA id day))).paid.lo ≠ (stF (F.filter (ofA id day))).paid.hi) : ∃ x ∈ clF (F.filter (ofA id 100000)), x.kind = 4 ∧ x.about ≤ day := by
  have hGC : FO (F.filter (ofA id 100000)) := hF.filter _
  obtain ⟨d, hd, hdn⟩ : ∃ d ∈ dl (fk (F.filter (ofA id day)) 4), (pd (fk (F.filter (ofA id day)) 4) d).lo ≠ (pd (fk (F.filter (ofA id day)) 4) d).hi := by
    refine Classical.byContradiction fun hn => hne ?_
    have h : ∀ d ∈ dl (fk (F.filter (ofA id day)) 4), (pd (fk (F.filter (ofA id day)) 4) d).lo = (pd (fk (F.filter (ofA id day)) 4) d).hi := fun d hd => Classical.byContradiction fun h => hn ⟨d, hd, h⟩
    show ((dl (fk (F.filter (ofA id day)) 4)).map fun d => (pd (fk (F.filter (ofA id day)) 4) d).lo).sum = ((dl (fk (F.filter (ofA id day)) 4)).map fun d => (pd (fk (F.filter (ofA id day)) 4) d).hi).sum
    exact congrArg List.sum (List.map_congr_left h)
  obtain ⟨y, hy, hyd⟩ := dl_mem.1 hd
  have hyS : y ∈ F ∧ ofA id day y = true ∧ y.kind = 4 := by
    unfold fk at hy
    rw [List.mem_filter, List.mem_filter] at hy
    exact ⟨hy.1.1, hy.1.2, of_decide_eq_true hy.2⟩
  have hle : d ≤ day := by
    have := hyS.2.1
    unfold ofA at this
    simp at this
    omega
  have hgr := grp_up (F := F) (id := id) hday (k := 4) hle
  have hpd : pd (fk (F.filter (ofA id 100000)) 4) d = pd (fk (F.filter (ofA id day)) 4) d := by
    refine pd_is ?_
    have h := pd_ex hd
    unfold Pd at h ⊢
    rw [hgr]
    refine ⟨?_, ?_, fun r hr => ?_⟩
    · obtain ⟨a, ha, e⟩ := h.1; exact ⟨a, ha, by rw [sumL_grp hday hgr]; exact e⟩
    · obtain ⟨a, ha, e⟩ := h.2.1; exact ⟨a, ha, by rw [sumL_grp hday hgr]; exact e⟩
    · rw [sumL_grp hday hgr]; exact h.2.2 r hr
  have hyg : y ∈ grp (fk (F.filter (ofA id 100000)) 4) d := by rw [hgr]; exact grp_mem.2 ⟨hy, hyd⟩
  cases hg : grp (fk (F.filter (ofA id 100000)) 4) d with
  | nil => rw [hg] at hyg; cases hyg
  | cons f r =>
    have hfa : f.about = d := (grp_mem.1 (by rw [hg]; exact List.mem_cons_self ..)).2
    refine ⟨⟨4, f.about, sid (grp (fk (F.filter (ofA id 100000)) 4) d)⟩, clF_mem.2 ⟨4, by decide, clK_mem.2 (.inr ⟨rfl, d, dl_mem.2 ⟨y, (grp_mem.1 hyg).1, hyd⟩, clash_mem.2 ⟨f, r, hg, fun _ => ?_, fun h => absurd rfl h, rfl⟩⟩)⟩, rfl, by dsimp only; omega⟩
    rw [hfa, hpd]; exact hdn
end
end S
end Go.Proofs.YtepjkmoipjeghaaDoor
set_option maxRecDepth 20000
set_option maxHeartbeats 4000000
namespace Go.Proofs.YtepjkmoipjeghaaDoor
open Go Go.Sx Go.RowKit
@[ext] structure Arr83 where
  x0 : Int
  x1 : Int
attribute [grind ext] Arr83.ext
instance : DecidableEq Arr83 := fun x y => decidable_of_iff (x.x0 = y.x0 ∧ x.x1 = y.x1) ⟨fun ⟨h0, h1⟩ => Arr83.ext h0 h1, fun h => by subst h; exact ⟨rfl, rfl⟩⟩
theorem cells83 : Tryd.prog.cellsOf 83 = 2 := by kernel_rfl
theorem kty83 : Tryd.prog.keyType 83 = true := by kernel_rfl
def Ky83 : Ky Tryd.prog 83 Arr83 := deepKy (show laidOutB Tryd.prog = true by kernel_rfl) (m := 2) (by omega) (of_decide_eq_true (by kernel_rfl)) (by kernel_rfl) (by rw [Tryd.underlying83]) (fun x => .agg (List.toArray [Value.int IntKind.i64 x.x0, Value.int IntKind.i64 x.x1])) (fun x => InK IntKind.i64 x.x0 ∧ InK IntKind.i64 x.x1)
  (fun {x} h => by
    exact key2a Tryd.underlying83 Tryd.underlying3 cells83 cells3 kty83 (of_decide_eq_true (by kernel_rfl)) h.1 h.2)
  (fun {a b} _ _ h => by
    cases a; cases b; simp at h; simp [h])
end Go.Proofs.YtepjkmoipjeghaaDoor
set_option maxRecDepth 20000
set_option maxHeartbeats 4000000
namespace Go.Proofs.YtepjkmoipjeghaaDoor
open Go Go.Sx Go.RowKit
noncomputable def P.law03_AccountClashes (l : (List Report)) (id : Int) (day : Int) (known : Int) : Option Bool :=
  Option.bind (P.law03_alive ) fun z1 => Option.bind (Option.bind (P.law03_ready l id ([day, known] : List Int)) fun z10 => cond (!z10) (some true) (some (!z1))) fun x16 => cond x16 (some z1) (Option.bind (P.account_Clashes l id known) fun (z18, z19) => Option.bind (P.account_State l id day known) fun (z27, z28) => Option.bind (P.account_Standing l known) fun (z76, z77) => Option.bind (cond (!decide (z19 = 0)) (some true) (cond (!decide (z28 = 0)) (some true) (some (!decide (z77 = 0))))) fun x87 => cond x87 (some false) (Option.bind (loopM (S := Int) (R := (Unit) ⊕ (Bool)) (fun x89 => cond (decide (x89 < (z18.length : Int))) (Option.bind (ixo z18 x89) fun y91 => Option.bind (cond (decide (0 < x89)) (Option.bind (chk .i64 (x89 - 1)) fun n111 => Option.bind (ixo z18 n111) fun y112 => cond (decide (y91.kind < y112.kind)) (some true) (Option.bind (chk .i64 (x89 - 1)) fun n126 => Option.bind (ixo z18 n126) fun y127 => cond (decide (y91.kind = y127.kind)) (Option.bind (chk .i64 (x89 - 1)) fun n138 => Option.bind (ixo z18 n138) fun y139 => cond (decide (y91.about ≤ y139.about)) (some true) (cond (decide ((y91.by_.length : Int) < 2)) (some true) (cond (decide (y91.kind < 1)) (some true) (some (decide (7 < y91.kind)))))) (cond (decide ((y91.by_.length : Int) < 2)) (some true) (cond (decide (y91.kind < 1)) (some true) (some (decide (7 < y91.kind))))))) (cond (decide ((y91.by_.length : Int) < 2)) (some true) (cond (decide (y91.kind < 1)) (some true) (some (decide (7 < y91.kind)))))) fun x186 => cond x186 (some (.inr (.inr false))) (Option.bind (loopM (S := Int × (FMap Int Bool) × (FMap Arr83 Bool)) (R := ((FMap Int Bool) × (FMap Arr83 Bool)) ⊕ (Bool)) (fun (x196, x197, x198) => cond (decide (x196 < (y91.by_.length : Int))) (Option.bind (ixo y91.by_ x196) fun y200 => Option.bind (P.law03_find z76 y200) fun (z207, z208) => Option.bind (cond (!z208) (some true) (cond (!decide (z207.kind = y91.kind)) (some true) (cond (!decide (z207.account = id)) (some true) (cond (decide (z207.about < y91.about)) (some true) (cond (decide (0 < x196)) (Option.bind (chk .i64 (x196 - 1)) fun n235 => Option.bind (ixo y91.by_ n235) fun y236 => some (decide (y200 ≤ y236))) (some false)))))) fun x243 => cond x243 (some (.inr (.inr false))) (Option.bind (chk .i64 (x196 + 1)) fun n251 => some (.inl (n251, (fput x197 z207.source true), (fput x198 (Arr83.mk z207.about z207.cents) true))))) (some (.inr (.inl (x197, x198))))) (0, fnone, fnone)) fun j252 => Sum.elim (fun (x253, x254) => Option.bind (cond (decide (y91.kind = 4)) (Option.bind (chk .i64 (flen x253)) fun n256 => cond (decide (n256 < 2)) (some true) (cond (!decide (y91.kind = 4)) (Option.bind (chk .i64 (flen x254)) fun n259 => some (decide (n259 < 2))) (some false))) (cond (!decide (y91.kind = 4)) (Option.bind (chk .i64 (flen x254)) fun n261 => some (decide (n261 < 2))) (some false))) fun x262 => cond x262 (some (.inr (.inr false))) (Option.bind (chk .i64 (x89 + 1)) fun n264 => some (.inl n264))) (fun r265 => some (.inr (.inr r265)))  j252)) (some (.inr (.inl ())))) 0) fun j266 => Sum.elim (fun _ => Option.bind (P.law03_things (State.mk (Told.mk z27.opened.known z27.opened.cents z27.opened.since z27.opened.by_) (Told.mk z27.limit.known z27.limit.cents z27.limit.since z27.limit.by_) (Told.mk z27.owed.known z27.owed.cents z27.owed.since z27.owed.by_) (Told.mk z27.late.known z27.late.cents z27.late.since z27.late.by_) (Told.mk z27.default.known z27.default.cents z27.default.since z27.default.by_) (Told.mk z27.closed.known z27.closed.cents z27.closed.since z27.closed.by_) (Span.mk z27.paid.lo z27.paid.hi) z27.is_)) fun (z267, z268) => Option.bind (loopM (S := Int) (R := (Unit) ⊕ (Bool)) (fun x277 => cond (decide (x277 < (z267.length : Int))) (Option.bind (Option.bind (ixo z267 x277) fun y279 => cond (!decide (y279.known = 1)) (some (.inl ())) (Option.bind (loopM (S := Bool × Int) (R := (Bool)) (fun (x300, x301) => cond (decide (x301 < (z18.length : Int))) (Option.bind (ixo z18 x301) fun y303 => Option.bind (cond x300 (some true) (Option.bind (ixo z268 x277) fun y326 => cond (decide (y303.kind = y326)) (some (decide (y303.about ≤ day))) (some false))) fun x340 => Option.bind (chk .i64 (x301 + 1)) fun n341 => some (.inl (x340, n341))) (some (.inr x300))) (false, 0)) fun x342 => cond (!x342) (some (.inr false)) (some (.inl ())))) fun j344 => Sum.elim (fun _ => Option.bind (chk .i64 (x277 + 1)) fun n345 => some (.inl n345)) (fun r346 => some (.inr (.inr r346)))  j344) (some (.inr (.inl ())))) 0) fun j347 => Sum.elim (fun _ => cond (decide (z27.paid.lo = z27.paid.hi)) (some z1) (Option.bind (loopM (S := Int) (R := (Unit) ⊕ (Bool)) (fun x349 => cond (decide (x349 < (z18.length : Int))) (Option.bind (ixo z18 x349) fun y351 => Option.bind (cond (decide (y351.kind = 4)) (some (decide (y351.about ≤ day))) (some false)) fun x371 => cond x371 (some (.inr (.inr z1))) (Option.bind (chk .i64 (x349 + 1)) fun n373 => some (.inl n373))) (some (.inr (.inl ())))) 0) fun j374 => Sum.elim (fun _ => some false) (fun r375 => some r375)  j374)) (fun r376 => some r376)  j347) (fun r377 => some r377)  j266))
theorem C_law03_AccountClashes {M : List Nat} {w : World} (hM : MLt M w) (hG : RdC M w 0 0 (glob0.map (Value.int .i64))) {l : (List Report)} {v_l_0 : Value} (f_l_0 : RdS ReportE M w v_l_0 l) {id : Int} (f_id_0 : InK .i64 id) {day : Int} (f_day_0 : InK .i64 day) {known : Int} (f_known_0 : InK .i64 known) {r0 : Bool} (h : P.law03_AccountClashes l id day known = some r0) :
  Calls Tryd.prog 12 (List.toArray [v_l_0, vi id, vi day, vi known]) w fun e w' => e = .returned (Value.bool r0) ∧ Ext w w' := by
 have hI := Hp.start (Mu := []) hM
 refine calls_cw Tryd.func12 rfl Tryd.ntmps12 rfl ?_
 refine cw_seq (cw_regF (s_as rfl rfl (Reg.nil (cw_seq (cw_regF ?_)))))
 obtain ⟨z1, hz2, h⟩ := bnd h
 refine s_call rfl Tryd.call26 rfl ((C_law03_alive hI.mlt hG hz2).mono ?_)
 rintro _ w3 ⟨rfl, e4⟩
 refine ⟨_, rfl, ?_⟩
 have hI5 := hI.ext e4
 refine s_as rfl rfl (Reg.nil (cw_seq ?_))
 obtain ⟨j6, h7, h⟩ := bnd h
 refine cw_keep [0, 1, 2, 3, 9] rfl (cw_seqD 0 (ι := Bool) (fun x8 => [(44, Value.bool x8)]) (fun x8 => fun w9 => Hp w [] M [] w9 ∧ Adv (mm [] M) (mm [] M) w3 w9 ∧ x8 = j6) ?_ ?_)
 ·refine cw_regF ?_
  iterate 4 refine s_mv rfl rfl ?_
  refine y_bs (E := (intE .i64)) (xs := [day, known]) sl36 hI5 rfl rfl (Cls.cons rfl (Cls.cons rfl Cls.nil)) (Chs.cons ⟨rfl, f_day_0⟩ (Chs.cons ⟨rfl, f_known_0⟩ Chs.nil)) rfl rfl ?_
  intro v12 w13 hI14 x15
  obtain ⟨z16, hz17, h7⟩ := bnd h7
  refine s_call rfl Tryd.call30 rfl ((C_law03_ready (hI14.sel [] rfl).mlt ((f_l_0.adv hI14.adv).adv (Hp.selA (σ := [ownR [] (intE .i64) 3 v12 ([day, known] : List Int)]) [])) f_id_0 (hI14.lendRd [] 0 rfl rfl) hz17).mono ?_)
  rintro _ w18 ⟨rfl, e19⟩
  refine ⟨_, rfl, ?_⟩
  have hI20 := hI14.ext e19
  refine s_not rfl rfl (s_mv rfl rfl (Reg.gsplit (t := 41) rfl (fun hg21 => ?_) (fun hg21 => ?_)))
  ·replace h7 := cdT hg21 h7
   refine Reg.pass rfl rfl rfl rfl (Reg.pass rfl rfl rfl rfl (s_pkT rfl rfl rfl (Reg.nil ?_)))
   obtain rfl := Option.some.inj h7
   refine ⟨rfl, true, ⟨(hI20.sel [] rfl), ((x15.trans (Adv.of_ext e19)).trans (Hp.selA (σ := [ownR [] (intE .i64) 3 v12 ([day, known] : List Int)]) [])), rfl⟩, sb6 rfl rfl rfl rfl rfl rfl⟩
  replace h7 := cdF hg21 h7
  refine Reg.take rfl rfl (s_mv rfl rfl (Reg.take rfl rfl (s_not rfl rfl (s_pkF rfl rfl rfl (Reg.nil ?_)))))
  obtain rfl := Option.some.inj h7
  refine ⟨rfl, !z1, ⟨(hI20.sel [] rfl), ((x15.trans (Adv.of_ext e19)).trans (Hp.selA (σ := [ownR [] (intE .i64) 3 v12 ([day, known] : List Int)]) [])), rfl⟩, sb6 rfl rfl rfl rfl rfl rfl⟩
 rintro x8 w9 ⟨hI10, hA11, rfl⟩
 refine cw_cond rfl (fun hc22 => ?_) (fun hc22 => ?_)
 ·replace h := cdT hc22 h
  refine cw_seq (cw_regF (s_mv rfl rfl (s_as rfl rfl (Reg.nil (cw_ret ?_)))))
  obtain rfl := Option.some.inj h
  refine fin1 Tryd.results12 rfl ?_
  exact ⟨rfl, hI10.kp⟩
 replace h := cdF hc22 h
 refine cw_skip (cw_seq (cw_regF ?_))
 iterate 3 refine s_mv rfl rfl ?_
 obtain ⟨⟨z23, z24⟩, hz25, h⟩ := bnd h
 refine s_call rfl Tryd.call22 rfl ((C_account_Clashes hI10.mlt (hG.adv hI10.adv) (f_l_0.adv hI10.adv) f_id_0 f_known_0 hz25).mono ?_)
 rintro _ w26 ⟨v28, rfl, hf29, r30, e27⟩
 refine ⟨_, rfl, ?_⟩
 have hI31 := hI10.addOwn e27 hf29
 refine s_mv rfl rfl (s_xt rfl rfl rfl (s_xt rfl rfl rfl (s_as rfl rfl (s_as rfl rfl (Reg.nil (cw_seq (cw_regF ?_)))))))
 iterate 4 refine s_mv rfl rfl ?_
 obtain ⟨⟨z32, z33⟩, hz34, h⟩ := bnd h
 refine s_call rfl Tryd.call20 rfl ((C_account_State hI31.mlt (hG.adv hI31.adv) (f_l_0.adv hI31.adv) f_id_0 f_day_0 f_known_0 hz34).mono ?_)
 rintro _ w35 ⟨v40, v45, v50, v55, v60, v65, rfl, r37, r38, r39, hf41, r42, r43, r44, hf46, r47, r48, r49, hf51, r52, r53, r54, hf56, r57, r58, r59, hf61, r62, r63, r64, hf66, r67, r68, r69, r70, e36⟩
 refine ⟨_, rfl, ?_⟩
 have hI71 := hI31.ext e36
 refine s_mv rfl rfl (s_xt rfl rfl rfl (s_xt rfl rfl rfl (y_al hI71 Tryd.zeroValue42 rfl rfl ?_)))
 intro b72 w73 hI74 x75
 refine y_st 0 hI74 rfl rfl rfl rfl Tryd.sizeOf42 rfl rfl (one1 rfl (one1 rfl (one1 rfl (one1 (RdS.oneC hf41) (one1 rfl (one1 rfl (one1 rfl (one1 (RdS.oneC hf46) (one1 rfl (one1 rfl (one1 rfl (one1 (RdS.oneC hf51) (one1 rfl (one1 rfl (one1 rfl (one1 (RdS.oneC hf56) (one1 rfl (one1 rfl (one1 rfl (one1 (RdS.oneC hf61) (one1 rfl (one1 rfl (one1 rfl (one1 (RdS.oneC hf66) (on3 rfl rfl rfl))))))))))))))))))))))))) ?_
 intro w76 hI77 x78
 have hC80 := hI77.freezeRow 0 rfl
 have hI79 := hI77.erase 0
 refine s_as rfl rfl (Reg.nil (cw_seq (cw_regF (s_mv rfl rfl (s_mv rfl rfl ?_)))))
 obtain ⟨⟨z81, z82⟩, hz83, h⟩ := bnd h
 refine s_call rfl Tryd.call13 rfl ((C_account_Standing hI79.mlt (hG.adv hI79.adv) (f_l_0.adv hI79.adv) f_known_0 hz83).mono ?_)
 rintro _ w84 ⟨v86, rfl, hf87, r88, e85⟩
 refine ⟨_, rfl, ?_⟩
 have hI89 := hI79.addOwn e85 hf87
 refine s_mv rfl rfl (s_xt rfl rfl rfl (s_xt rfl rfl rfl (s_as rfl rfl (s_as rfl rfl (Reg.nil (cw_seq ?_))))))
 obtain ⟨j90, h91, h⟩ := bnd h
 refine cw_keep [11, 13, 15, 1, 2, 9, 10, 12, 14] rfl (cw_seqD 3 (ι := Bool) (fun x92 => [(76, Value.bool x92)]) (fun x92 => fun w93 => w84 = w93 ∧ x92 = j90) ?_ ?_)
 ·refine cw_regF (s_mv rfl rfl (s_neq rfl rfl rfl (s_mv rfl rfl (Reg.gsplit (t := 69) rfl (fun hg96 => ?_) (fun hg96 => ?_)))))
  ·replace h91 := cdT hg96 h91
   refine Reg.pass rfl rfl rfl rfl (Reg.pass rfl rfl rfl rfl (s_pkT rfl rfl rfl (s_mv rfl rfl (Reg.pass rfl rfl rfl rfl (Reg.pass rfl rfl rfl rfl (s_pkT rfl rfl rfl (Reg.nil ?_)))))))
   obtain rfl := Option.some.inj h91
   refine ⟨rfl, true, ⟨rfl, rfl⟩, sb7 rfl rfl rfl rfl rfl rfl rfl⟩
  replace h91 := cdF hg96 h91
  refine Reg.take rfl rfl (s_mv rfl rfl (Reg.take rfl rfl (s_neq rfl rfl rfl (s_pkF rfl rfl rfl (s_mv rfl rfl (Reg.gsplit (t := 73) rfl (fun hg97 => ?_) (fun hg97 => ?_)))))))
  ·replace h91 := cdT hg97 h91
   refine Reg.pass rfl rfl rfl rfl (Reg.pass rfl rfl rfl rfl (s_pkT rfl rfl rfl (Reg.nil ?_)))
   obtain rfl := Option.some.inj h91
   refine ⟨rfl, true, ⟨rfl, rfl⟩, sb7 rfl rfl rfl rfl rfl rfl rfl⟩
  replace h91 := cdF hg97 h91
  refine Reg.take rfl rfl (s_mv rfl rfl (Reg.take rfl rfl (s_neq rfl rfl rfl (s_pkF rfl rfl rfl (Reg.nil ?_)))))
  obtain rfl := Option.some.inj h91
  refine ⟨rfl, !decide (z82 = 0), ⟨rfl, rfl⟩, sb7 rfl rfl rfl rfl rfl rfl rfl⟩
 rintro x92 _ ⟨rfl, rfl⟩
 refine cw_cond rfl (fun hc98 => ?_) (fun hc98 => ?_)
 ·replace h := cdT hc98 h
  refine cw_seq (cw_regF (s_as rfl rfl (Reg.nil (cw_ret ?_))))
  obtain rfl := Option.some.inj h
  refine fin1 Tryd.results12 rfl ?_
  exact ⟨rfl, hI89.kp⟩
 replace h := cdF hc98 h
 refine cw_skip (cw_seq (cw_seq (cw_regF (s_mv rfl rfl (s_lenO rfl (hI89.ownAt 1 rfl) Tryd.underlying47 rfl ?_)))))
 refine s_mv rfl rfl (Reg.nil ?_)
 obtain ⟨j99, h100, h⟩ := bnd h
 refine cw_keep [1, 14, 77, 78, 79, 2, 9, 10, 12] rfl (cw_unitD 5 (ι := Unit) (fun _ => []) (fun _ => fun w101 => Hp w [] M [ownR [] ReportE 61 v86 z81, ownR [] ClashE 55 v28 z23] w101 ∧ Adv (mm [ownR [] ReportE 61 v86 z81, ownR [] ClashE 55 v28 z23] M) (mm [ownR [] ReportE 61 v86 z81, ownR [] ClashE 55 v28 z23] M) w84 w101 ∧ (.inl ()) = j99) ?_ ?_)
 ·refine cw_block (cw_keep [79, 1, 2, 9, 10, 12, 14, 77, 78] rfl ?_)
  refine cw_loopM 1 (ι := Int) _ (fun x104 => [(79, vi x104)]) (fun x104 => x104) (fun x104 => fun w106 => Hp w [] M [ownR [] ReportE 61 v86 z81, ownR [] ClashE 55 v28 z23] w106 ∧ Adv (mm [ownR [] ReportE 61 v86 z81, ownR [] ClashE 55 v28 z23] M) (mm [ownR [] ReportE 61 v86 z81, ownR [] ClashE 55 v28 z23] M) w84 w106 ∧ InK .i64 x104) 0 h100 ⟨hI89, (Adv.refl _ _), (by decide)⟩ (sb9 rfl rfl rfl rfl rfl rfl rfl rfl rfl) ?_
  rintro x104 w106 ⟨hI107, hA108, r105⟩ y109 h110 hR111
  refine cw_seq (cw_regF (s_lss rfl rfl rfl (Reg.nil (cw_seq (cw_cond rfl (fun hc112 => ?_) (fun hc112 => ?_))))))
  ·replace h110 := cdT hc112 h110
   refine cw_skip (cw_seq (cw_block (cw_seq (cw_regF (s_mv rfl rfl ?_)))))
   obtain ⟨y113, hy113, h110⟩ := bnd h110
   refine y_ia 1 hI107 rfl rfl rfl hy113 Tryd.underlying47 Tryd.sizeOf55 rfl ?_
   intro g114 cs115 hg116 hR117 hC118
   have khR117 := hR117
   obtain ⟨v121, rfl, r119, r120, hf122⟩ := ClashE_R.1 hR117
   refine s_lda rfl hC118 Tryd.isAgg55 rfl Tryd.sizeOf55 rfl (y_al hI107 Tryd.zeroValue55 rfl rfl ?_)
   intro b123 w124 hI125 x126
   refine s_as rfl rfl (y_st 0 hI125 rfl rfl rfl rfl Tryd.sizeOf55 rfl rfl (one1 rfl (one1 rfl (one1 (RdS.oneC hf122) one0))) ?_)
   intro w127 hI128 x129
   have hC131 := hI128.freezeRow 0 rfl
   have hI130 := hI128.erase 0
   refine Reg.nil (cw_seq ?_)
   obtain ⟨j132, h133, h110⟩ := bnd h110
   refine cw_keep [16, 1, 2, 9, 10, 12, 14, 17, 77, 78, 79] rfl (cw_seqD 1 (ι := Bool) (fun x134 => [(134, Value.bool x134)]) (fun x134 => fun w135 => Hp w [] M [ownR [] ReportE 61 v86 z81, ownR [] ClashE 55 v28 z23] w135 ∧ Adv (mm [ownR [] ReportE 61 v86 z81, ownR [] ClashE 55 v28 z23] M) (mm [ownR [] ReportE 61 v86 z81, ownR [] ClashE 55 v28 z23] M) w127 w135 ∧ x134 = j132) ?_ ?_)
   ·refine cw_regT fol (by kernel_rfl) ?_
    refine s_mv rfl rfl (s_gtr rfl rfl rfl (s_mv rfl rfl (Reg.gsplit (t := 86) rfl (fun hg138 => ?_) (fun hg138 => ?_))))
    ·replace h133 := cdT hg138 h133
     refine Reg.take rfl rfl (s_fa rfl Tryd.underlying55 rfl Tryd.sizeOf5 rfl (Reg.take rfl rfl (s_ld rfl (hC131.cells.at 0 rfl) Tryd.isAgg5 rfl (Reg.take rfl rfl (s_mv rfl rfl (Reg.take rfl rfl (s_mv rfl rfl (Reg.take rfl rfl ?_))))))))
     obtain ⟨n139, hn139, h133⟩ := bnd h133
     replace hn139 := chk_out hn139
     refine p_sub rfl rfl rfl hn139 ?_
     refine Reg.take rfl rfl ?_
     obtain ⟨y140, hy140, h133⟩ := bnd h133
     refine y_ia 1 hI130 rfl rfl rfl hy140 Tryd.underlying47 Tryd.sizeOf55 rfl ?_
     intro g141 cs142 hg143 hR144 hC145
     have khR144 := hR144
     obtain ⟨v148, rfl, r146, r147, hf149⟩ := ClashE_R.1 hR144
     refine Reg.take rfl rfl (s_fa rfl Tryd.underlying55 rfl Tryd.sizeOf5 rfl (Reg.take rfl rfl (s_ld rfl (hC145.at 0 rfl) Tryd.isAgg5 rfl (Reg.take rfl rfl (s_lss rfl rfl rfl (Reg.take rfl rfl (s_mv rfl rfl (Reg.gsplit (t := 96) rfl (fun hg150 => ?_) (fun hg150 => ?_)))))))))
     ·replace h133 := cdT hg150 h133
      iterate 10 refine Reg.pass rfl rfl rfl rfl ?_
      iterate 9 refine Reg.passU rfl rfl rfl ?_
      refine Reg.pass rfl rfl rfl rfl (Reg.take rfl rfl (s_pkT rfl rfl rfl (s_pkT rfl rfl rfl (s_mv rfl rfl ?_))))
      iterate 4 refine Reg.pass rfl rfl rfl rfl ?_
      refine s_pkT rfl rfl rfl (s_mv rfl rfl ?_)
      iterate 3 refine Reg.pass rfl rfl rfl rfl ?_
      refine s_pkT rfl rfl rfl (s_mv rfl rfl ?_)
      iterate 3 refine Reg.pass rfl rfl rfl rfl ?_
      refine s_pkT rfl rfl rfl (Reg.nilq (fun w151 e152 => ?_))
      have hI153 := hI130.ext e152
      obtain rfl := Option.some.inj h133
      refine ⟨rfl, true, ⟨hI153, (Adv.of_ext e152), rfl⟩, sb11 rfl rfl rfl rfl rfl rfl rfl rfl rfl rfl rfl⟩
     replace h133 := cdF hg150 h133
     refine Reg.take rfl rfl (s_fa rfl Tryd.underlying55 rfl Tryd.sizeOf5 rfl (Reg.take rfl rfl (s_ld rfl (hC131.cells.at 0 rfl) Tryd.isAgg5 rfl (Reg.take rfl rfl (s_mv rfl rfl (Reg.take rfl rfl (s_mv rfl rfl (Reg.take rfl rfl ?_))))))))
     obtain ⟨n154, hn154, h133⟩ := bnd h133
     replace hn154 := chk_out hn154
     refine p_sub rfl rfl rfl hn154 ?_
     refine Reg.take rfl rfl ?_
     obtain ⟨y155, hy155, h133⟩ := bnd h133
     refine y_ia 1 hI130 rfl rfl rfl hy155 Tryd.underlying47 Tryd.sizeOf55 rfl ?_
     intro g156 cs157 hg158 hR159 hC160
     have khR159 := hR159
     obtain ⟨v163, rfl, r161, r162, hf164⟩ := ClashE_R.1 hR159
     refine Reg.take rfl rfl (s_fa rfl Tryd.underlying55 rfl Tryd.sizeOf5 rfl (Reg.take rfl rfl (s_ld rfl (hC160.at 0 rfl) Tryd.isAgg5 rfl (Reg.take rfl rfl (s_eql rfl rfl rfl (Reg.take rfl rfl (s_mv rfl rfl (Reg.gsplit (t := 106) rfl (fun hg165 => ?_) (fun hg165 => ?_)))))))))
     ·replace h133 := cdT hg165 h133
      refine Reg.take rfl rfl (s_fa rfl Tryd.underlying55 rfl Tryd.sizeOf3 rfl (Reg.take rfl rfl (s_ld rfl (hC131.cells.at 1 rfl) Tryd.isAgg3 rfl (Reg.take rfl rfl (s_mv rfl rfl (Reg.take rfl rfl (s_mv rfl rfl (Reg.take rfl rfl ?_))))))))
      obtain ⟨n166, hn166, h133⟩ := bnd h133
      replace hn166 := chk_out hn166
      refine p_sub rfl rfl rfl hn166 ?_
      refine Reg.take rfl rfl ?_
      obtain ⟨y167, hy167, h133⟩ := bnd h133
      refine y_ia 1 hI130 rfl rfl rfl hy167 Tryd.underlying47 Tryd.sizeOf55 rfl ?_
      intro g168 cs169 hg170 hR171 hC172
      have khR171 := hR171
      obtain ⟨v175, rfl, r173, r174, hf176⟩ := ClashE_R.1 hR171
      refine Reg.take rfl rfl (s_fa rfl Tryd.underlying55 rfl Tryd.sizeOf3 rfl (Reg.take rfl rfl (s_ld rfl (hC172.at 1 rfl) Tryd.isAgg3 rfl (Reg.take rfl rfl (s_leq rfl rfl rfl (Reg.take rfl rfl (s_pkT rfl rfl rfl (Reg.take rfl rfl (s_pkF rfl rfl rfl (s_pkT rfl rfl rfl (s_mv rfl rfl ?_)))))))))))
      refine Reg.gsplit (t := 119) rfl (fun hg177 => ?_) (fun hg177 => ?_)
      ·replace h133 := cdT hg177 h133
       iterate 4 refine Reg.pass rfl rfl rfl rfl ?_
       refine s_pkT rfl rfl rfl (s_mv rfl rfl ?_)
       iterate 3 refine Reg.pass rfl rfl rfl rfl ?_
       refine s_pkT rfl rfl rfl (s_mv rfl rfl ?_)
       iterate 3 refine Reg.pass rfl rfl rfl rfl ?_
       refine s_pkT rfl rfl rfl (Reg.nilq (fun w178 e179 => ?_))
       have hI180 := hI130.ext e179
       obtain rfl := Option.some.inj h133
       refine ⟨rfl, true, ⟨hI180, (Adv.of_ext e179), rfl⟩, sb11 rfl rfl rfl rfl rfl rfl rfl rfl rfl rfl rfl⟩
      replace h133 := cdF hg177 h133
      refine Reg.take rfl rfl (s_fa rfl Tryd.underlying55 rfl Tryd.sizeOf36 rfl (Reg.take rfl rfl (s_ld rfl (hC131.cells.at 2 rfl) Tryd.isAgg36 rfl (Reg.take rfl rfl (s_len rfl (hf122.adv (x126.trans (x129.trans (hI128.eraseH 0)))) Tryd.underlying36 rfl (Reg.take rfl rfl (s_lss rfl rfl rfl (s_pkF rfl rfl rfl (s_mv rfl rfl (Reg.gsplit (t := 125) rfl (fun hg181 => ?_) (fun hg181 => ?_)))))))))))
      ·replace h133 := cdT hg181 h133
       iterate 3 refine Reg.pass rfl rfl rfl rfl ?_
       refine s_pkT rfl rfl rfl (s_mv rfl rfl ?_)
       iterate 3 refine Reg.pass rfl rfl rfl rfl ?_
       refine s_pkT rfl rfl rfl (Reg.nilq (fun w182 e183 => ?_))
       have hI184 := hI130.ext e183
       obtain rfl := Option.some.inj h133
       refine ⟨rfl, true, ⟨hI184, (Adv.of_ext e183), rfl⟩, sb11 rfl rfl rfl rfl rfl rfl rfl rfl rfl rfl rfl⟩
      replace h133 := cdF hg181 h133
      refine Reg.take rfl rfl (s_fa rfl Tryd.underlying55 rfl Tryd.sizeOf5 rfl (Reg.take rfl rfl (s_ld rfl (hC131.cells.at 0 rfl) Tryd.isAgg5 rfl (Reg.take rfl rfl (s_lss rfl rfl rfl (s_pkF rfl rfl rfl (s_mv rfl rfl (Reg.gsplit (t := 130) rfl (fun hg185 => ?_) (fun hg185 => ?_)))))))))
      ·replace h133 := cdT hg185 h133
       iterate 3 refine Reg.pass rfl rfl rfl rfl ?_
       refine s_pkT rfl rfl rfl (Reg.nilq (fun w186 e187 => ?_))
       have hI188 := hI130.ext e187
       obtain rfl := Option.some.inj h133
       refine ⟨rfl, true, ⟨hI188, (Adv.of_ext e187), rfl⟩, sb11 rfl rfl rfl rfl rfl rfl rfl rfl rfl rfl rfl⟩
      replace h133 := cdF hg185 h133
      refine Reg.take rfl rfl (s_fa rfl Tryd.underlying55 rfl Tryd.sizeOf5 rfl (Reg.take rfl rfl (s_ld rfl (hC131.cells.at 0 rfl) Tryd.isAgg5 rfl (Reg.take rfl rfl (s_gtr rfl rfl rfl (s_pkF rfl rfl rfl (Reg.nilq (fun w189 e190 => ?_))))))))
      have hI191 := hI130.ext e190
      obtain rfl := Option.some.inj h133
      refine ⟨rfl, decide (7 < y113.kind), ⟨hI191, (Adv.of_ext e190), rfl⟩, sb11 rfl rfl rfl rfl rfl rfl rfl rfl rfl rfl rfl⟩
     replace h133 := cdF hg165 h133
     iterate 9 refine Reg.pass rfl rfl rfl rfl ?_
     refine Reg.take rfl rfl (s_pkF rfl rfl rfl (Reg.take rfl rfl (s_pkF rfl rfl rfl (s_pkT rfl rfl rfl (s_mv rfl rfl (Reg.take rfl rfl (s_fa rfl Tryd.underlying55 rfl Tryd.sizeOf36 rfl (Reg.take rfl rfl (s_ld rfl (hC131.cells.at 2 rfl) Tryd.isAgg36 rfl (Reg.take rfl rfl (s_len rfl (hf122.adv (x126.trans (x129.trans (hI128.eraseH 0)))) Tryd.underlying36 rfl ?_)))))))))))
     refine Reg.take rfl rfl (s_lss rfl rfl rfl (s_pkF rfl rfl rfl (s_mv rfl rfl (Reg.gsplit (t := 125) rfl (fun hg192 => ?_) (fun hg192 => ?_)))))
     ·replace h133 := cdT hg192 h133
      iterate 3 refine Reg.pass rfl rfl rfl rfl ?_
      refine s_pkT rfl rfl rfl (s_mv rfl rfl ?_)
      iterate 3 refine Reg.pass rfl rfl rfl rfl ?_
      refine s_pkT rfl rfl rfl (Reg.nilq (fun w193 e194 => ?_))
      have hI195 := hI130.ext e194
      obtain rfl := Option.some.inj h133
      refine ⟨rfl, true, ⟨hI195, (Adv.of_ext e194), rfl⟩, sb11 rfl rfl rfl rfl rfl rfl rfl rfl rfl rfl rfl⟩
     replace h133 := cdF hg192 h133
     refine Reg.take rfl rfl (s_fa rfl Tryd.underlying55 rfl Tryd.sizeOf5 rfl (Reg.take rfl rfl (s_ld rfl (hC131.cells.at 0 rfl) Tryd.isAgg5 rfl (Reg.take rfl rfl (s_lss rfl rfl rfl (s_pkF rfl rfl rfl (s_mv rfl rfl (Reg.gsplit (t := 130) rfl (fun hg196 => ?_) (fun hg196 => ?_)))))))))
     ·replace h133 := cdT hg196 h133
      iterate 3 refine Reg.pass rfl rfl rfl rfl ?_
      refine s_pkT rfl rfl rfl (Reg.nilq (fun w197 e198 => ?_))
      have hI199 := hI130.ext e198
      obtain rfl := Option.some.inj h133
      refine ⟨rfl, true, ⟨hI199, (Adv.of_ext e198), rfl⟩, sb11 rfl rfl rfl rfl rfl rfl rfl rfl rfl rfl rfl⟩
     replace h133 := cdF hg196 h133
     refine Reg.take rfl rfl (s_fa rfl Tryd.underlying55 rfl Tryd.sizeOf5 rfl (Reg.take rfl rfl (s_ld rfl (hC131.cells.at 0 rfl) Tryd.isAgg5 rfl (Reg.take rfl rfl (s_gtr rfl rfl rfl (s_pkF rfl rfl rfl (Reg.nilq (fun w200 e201 => ?_))))))))
     have hI202 := hI130.ext e201
     obtain rfl := Option.some.inj h133
     refine ⟨rfl, decide (7 < y113.kind), ⟨hI202, (Adv.of_ext e201), rfl⟩, sb11 rfl rfl rfl rfl rfl rfl rfl rfl rfl rfl rfl⟩
    replace h133 := cdF hg138 h133
    iterate 10 refine Reg.pass rfl rfl rfl rfl ?_
    iterate 20 refine Reg.passU rfl rfl rfl ?_
    refine Reg.pass rfl rfl rfl rfl (s_pkF rfl rfl rfl (s_mv rfl rfl (Reg.take rfl rfl (s_fa rfl Tryd.underlying55 rfl Tryd.sizeOf36 rfl (Reg.take rfl rfl (s_ld rfl (hC131.cells.at 2 rfl) Tryd.isAgg36 rfl (Reg.take rfl rfl (s_len rfl (hf122.adv (x126.trans (x129.trans (hI128.eraseH 0)))) Tryd.underlying36 rfl (Reg.take rfl rfl (s_lss rfl rfl rfl (s_pkF rfl rfl rfl ?_)))))))))))
    refine s_mv rfl rfl (Reg.gsplit (t := 125) rfl (fun hg203 => ?_) (fun hg203 => ?_))
    ·replace h133 := cdT hg203 h133
     iterate 3 refine Reg.pass rfl rfl rfl rfl ?_
     refine s_pkT rfl rfl rfl (s_mv rfl rfl ?_)
     iterate 3 refine Reg.pass rfl rfl rfl rfl ?_
     refine s_pkT rfl rfl rfl (Reg.nilq (fun w204 e205 => ?_))
     have hI206 := hI130.ext e205
     obtain rfl := Option.some.inj h133
     refine ⟨rfl, true, ⟨hI206, (Adv.of_ext e205), rfl⟩, sb11 rfl rfl rfl rfl rfl rfl rfl rfl rfl rfl rfl⟩
    replace h133 := cdF hg203 h133
    refine Reg.take rfl rfl (s_fa rfl Tryd.underlying55 rfl Tryd.sizeOf5 rfl (Reg.take rfl rfl (s_ld rfl (hC131.cells.at 0 rfl) Tryd.isAgg5 rfl (Reg.take rfl rfl (s_lss rfl rfl rfl (s_pkF rfl rfl rfl (s_mv rfl rfl (Reg.gsplit (t := 130) rfl (fun hg207 => ?_) (fun hg207 => ?_)))))))))
    ·replace h133 := cdT hg207 h133
     iterate 3 refine Reg.pass rfl rfl rfl rfl ?_
     refine s_pkT rfl rfl rfl (Reg.nilq (fun w208 e209 => ?_))
     have hI210 := hI130.ext e209
     obtain rfl := Option.some.inj h133
     refine ⟨rfl, true, ⟨hI210, (Adv.of_ext e209), rfl⟩, sb11 rfl rfl rfl rfl rfl rfl rfl rfl rfl rfl rfl⟩
    replace h133 := cdF hg207 h133
    refine Reg.take rfl rfl (s_fa rfl Tryd.underlying55 rfl Tryd.sizeOf5 rfl (Reg.take rfl rfl (s_ld rfl (hC131.cells.at 0 rfl) Tryd.isAgg5 rfl (Reg.take rfl rfl (s_gtr rfl rfl rfl (s_pkF rfl rfl rfl (Reg.nilq (fun w211 e212 => ?_))))))))
    have hI213 := hI130.ext e212
    obtain rfl := Option.some.inj h133
    refine ⟨rfl, decide (7 < y113.kind), ⟨hI213, (Adv.of_ext e212), rfl⟩, sb11 rfl rfl rfl rfl rfl rfl rfl rfl rfl rfl rfl⟩
   rintro x134 w135 ⟨hI136, hA137, rfl⟩
   refine cw_cond rfl (fun hc214 => ?_) (fun hc214 => ?_)
   ·replace h110 := cdT hc214 h110
    refine cw_seq (cw_regF (s_as rfl rfl (Reg.nil (cw_ret ?_))))
    obtain rfl := Option.some.inj h110
    obtain rfl := hR111 _ rfl
    replace h := elimR h
    obtain rfl := Option.some.inj h
    refine fin1 Tryd.results12 rfl ?_
    exact ⟨rfl, hI136.kp⟩
   replace h110 := cdF hc214 h110
   refine cw_skip (cw_seq (cw_regF (y_mkF Ky3 boolE false hI136 rfl ?_)))
   intro b215 w216 hI217 x218
   refine s_as rfl rfl (Reg.nil (cw_seq (cw_regF (y_mkF Ky83 boolE false hI217 rfl ?_))))
   intro b219 w220 hI221 x222
   refine s_as rfl rfl (Reg.nil (cw_seq (cw_seq (cw_regF (s_fa rfl Tryd.underlying55 rfl Tryd.sizeOf36 rfl (s_ld rfl ((hC131.adv (hA137.trans (x218.trans x222))).cells.at 2 rfl) Tryd.isAgg36 rfl (s_len rfl (hf122.adv (x126.trans (x129.trans ((hI128.eraseH 0).trans (hA137.trans (x218.trans x222)))))) Tryd.underlying36 rfl (s_mv rfl rfl (Reg.nil ?_)))))))))
   obtain ⟨j223, h224, h110⟩ := bnd h110
   refine cw_sub (L := [(138, _), (139, _), (140, _), (1, _), (2, _), (9, _), (10, _), (12, _), (14, _), (17, _), (18, _), (19, _), (77, _), (78, _), (79, _)]) (Sub.cons rfl (Sub.cons rfl (Sub.cons rfl (sb12 rfl rfl rfl rfl rfl rfl rfl rfl rfl rfl rfl rfl)))) (cw_unitD 3 (ι := (FMap Int Bool) × (FMap Arr83 Bool)) (fun ⟨x225, x226⟩ => []) (fun ⟨x225, x226⟩ => fun w227 => Hp w [] M [mapO Ky83 boolE false b219 x226, mapO Ky3 boolE false b215 x225, ownR [] ReportE 61 v86 z81, ownR [] ClashE 55 v28 z23] w227 ∧ Adv (mm [mapO Ky83 boolE false b219 fnone, mapO Ky3 boolE false b215 fnone, ownR [] ReportE 61 v86 z81, ownR [] ClashE 55 v28 z23] M) (mm [mapO Ky83 boolE false b219 x226, mapO Ky3 boolE false b215 x225, ownR [] ReportE 61 v86 z81, ownR [] ClashE 55 v28 z23] M) w220 w227 ∧ (.inl (x225, x226)) = j223) ?_ ?_)
   ·refine cw_block (cw_sub (L := [(140, _), (1, _), (2, _), (9, _), (10, _), (12, _), (14, _), (17, _), (18, _), (19, _), (77, _), (78, _), (79, _), (138, _), (139, _)]) (Sub.cons rfl (Sub.cons rfl (Sub.cons rfl (sb12 rfl rfl rfl rfl rfl rfl rfl rfl rfl rfl rfl rfl)))) ?_)
    refine cw_loopM 1 (ι := Int × (FMap Int Bool) × (FMap Arr83 Bool)) _ (fun ⟨x230, x232, x233⟩ => [(140, vi x230)]) (fun ⟨x230, x232, x233⟩ => (x230, x232, x233)) (fun ⟨x230, x232, x233⟩ => fun w234 => Hp w [] M [mapO Ky83 boolE false b219 x233, mapO Ky3 boolE false b215 x232, ownR [] ReportE 61 v86 z81, ownR [] ClashE 55 v28 z23] w234 ∧ Adv (mm [mapO Ky83 boolE false b219 fnone, mapO Ky3 boolE false b215 fnone, ownR [] ReportE 61 v86 z81, ownR [] ClashE 55 v28 z23] M) (mm [mapO Ky83 boolE false b219 x233, mapO Ky3 boolE false b215 x232, ownR [] ReportE 61 v86 z81, ownR [] ClashE 55 v28 z23] M) w220 w234 ∧ InK .i64 x230) (0, fnone, fnone) h224 ⟨hI221, (Adv.refl _ _), (by decide)⟩ (Sub.cons rfl (Sub.cons rfl (Sub.cons rfl (sb12 rfl rfl rfl rfl rfl rfl rfl rfl rfl rfl rfl rfl)))) ?_
    rintro ⟨x230, x232, x233⟩ w234 ⟨hI235, hA236, r231⟩ y237 h238 hR239
    refine cw_seq (cw_regF (s_lss rfl rfl rfl (Reg.nil (cw_seq (cw_cond rfl (fun hc240 => ?_) (fun hc240 => ?_))))))
    ·replace h238 := cdT hc240 h238
     refine cw_skip (cw_seq (cw_block (cw_seq (cw_regF (s_mv rfl rfl ?_)))))
     obtain ⟨y241, hy241, h238⟩ := bnd h238
     refine p_ia rfl rfl (hf122.adv (x126.trans (x129.trans ((hI128.eraseH 0).trans (hA137.trans (x218.trans (x222.trans hA236))))))) hy241 Tryd.underlying36 Tryd.sizeOf3 rfl ?_
     intro b242 o243 cs244 hR245 hC246
     obtain ⟨rfl, r247⟩ := hR245
     refine s_ld rfl (hC246.cells.at 0 rfl) Tryd.isAgg3 rfl (s_as rfl rfl (s_as rfl rfl (Reg.nil (cw_seq (cw_regF (s_mv rfl rfl (s_mv rfl rfl ?_)))))))
     obtain ⟨⟨z248, z249⟩, hz250, h238⟩ := bnd h238
     refine s_call rfl Tryd.call33 rfl ((C_law03_find (hI235.sel [0, 1, 3] rfl).mlt (hI235.lendRd [0, 1, 3] 2 rfl rfl) r247 hz250).mono ?_)
     rintro _ w251 ⟨rfl, r253, r254, r255, r256, r257, r258, r259, r260, e252⟩
     refine ⟨_, rfl, ?_⟩
     have hI261 := hI235.ext e252
     refine s_mv rfl rfl (s_xt rfl rfl rfl (s_xt rfl rfl rfl (y_al hI261 Tryd.zeroValue61 rfl rfl ?_)))
     intro b262 w263 hI264 x265
     refine y_st 0 hI264 rfl rfl rfl rfl Tryd.sizeOf61 rfl rfl (on8 rfl rfl rfl rfl rfl rfl rfl rfl) ?_
     intro w266 hI267 x268
     have hC270 := hI267.freezeRow 0 rfl
     have hI269 := hI267.erase 0
     refine s_as rfl rfl (Reg.nil (cw_seq ?_))
     obtain ⟨j271, h272, h238⟩ := bnd h238
     refine cw_sub (L := [(20, _), (21, _), (23, _), (1, _), (2, _), (9, _), (10, _), (12, _), (14, _), (17, _), (18, _), (19, _), (22, _), (77, _), (78, _), (79, _), (138, _), (139, _), (140, _)]) (Sub.cons rfl (Sub.cons rfl (Sub.cons rfl (Sub.cons rfl (Sub.cons rfl (Sub.cons rfl (Sub.cons rfl (sb12 rfl rfl rfl rfl rfl rfl rfl rfl rfl rfl rfl rfl)))))))) (cw_seqD 3 (ι := Bool) (fun x273 => [(186, Value.bool x273)]) (fun x273 => fun w274 => w266 = w274 ∧ x273 = j271) ?_ ?_)
     ·refine cw_regF (s_mv rfl rfl (s_not rfl rfl (s_mv rfl rfl (Reg.gsplit (t := 153) rfl (fun hg277 => ?_) (fun hg277 => ?_)))))
      ·replace h272 := cdT hg277 h272
       iterate 5 refine Reg.pass rfl rfl rfl rfl ?_
       refine s_pkT rfl rfl rfl (s_mv rfl rfl ?_)
       iterate 4 refine Reg.pass rfl rfl rfl rfl ?_
       refine s_pkT rfl rfl rfl (s_mv rfl rfl ?_)
       iterate 5 refine Reg.pass rfl rfl rfl rfl ?_
       refine s_pkT rfl rfl rfl (s_mv rfl rfl ?_)
       iterate 3 refine Reg.pass rfl rfl rfl rfl ?_
       iterate 8 refine Reg.passU rfl rfl rfl ?_
       refine Reg.pass rfl rfl rfl rfl (s_pkT rfl rfl rfl (Reg.nil ?_))
       obtain rfl := Option.some.inj h272
       refine ⟨rfl, true, ⟨rfl, rfl⟩, Sub.cons rfl (Sub.cons rfl (Sub.cons rfl (Sub.cons rfl (Sub.cons rfl (sb12 rfl rfl rfl rfl rfl rfl rfl rfl rfl rfl rfl rfl)))))⟩
      replace h272 := cdF hg277 h272
      refine Reg.take rfl rfl (s_fa rfl Tryd.underlying61 rfl Tryd.sizeOf5 rfl (Reg.take rfl rfl (s_ld rfl (hC270.cells.at 5 rfl) Tryd.isAgg5 rfl (Reg.take rfl rfl (s_fa rfl Tryd.underlying55 rfl Tryd.sizeOf5 rfl (Reg.take rfl rfl (s_ld rfl ((hC131.adv (hA137.trans (x218.trans (x222.trans (hA236.trans ((Adv.of_ext e252).trans (x265.trans (x268.trans (hI267.eraseH 0))))))))).cells.at 0 rfl) Tryd.isAgg5 rfl (Reg.take rfl rfl (s_neq rfl rfl rfl (s_pkF rfl rfl rfl (s_mv rfl rfl ?_)))))))))))
      refine Reg.gsplit (t := 160) rfl (fun hg278 => ?_) (fun hg278 => ?_)
      ·replace h272 := cdT hg278 h272
       iterate 4 refine Reg.pass rfl rfl rfl rfl ?_
       refine s_pkT rfl rfl rfl (s_mv rfl rfl ?_)
       iterate 5 refine Reg.pass rfl rfl rfl rfl ?_
       refine s_pkT rfl rfl rfl (s_mv rfl rfl ?_)
       iterate 3 refine Reg.pass rfl rfl rfl rfl ?_
       iterate 8 refine Reg.passU rfl rfl rfl ?_
       refine Reg.pass rfl rfl rfl rfl (s_pkT rfl rfl rfl (Reg.nil ?_))
       obtain rfl := Option.some.inj h272
       refine ⟨rfl, true, ⟨rfl, rfl⟩, Sub.cons rfl (Sub.cons rfl (Sub.cons rfl (Sub.cons rfl (Sub.cons rfl (sb12 rfl rfl rfl rfl rfl rfl rfl rfl rfl rfl rfl rfl)))))⟩
      replace h272 := cdF hg278 h272
      refine Reg.take rfl rfl (s_fa rfl Tryd.underlying61 rfl Tryd.sizeOf3 rfl (Reg.take rfl rfl (s_ld rfl (hC270.cells.at 2 rfl) Tryd.isAgg3 rfl (Reg.take rfl rfl (s_mv rfl rfl (Reg.take rfl rfl (s_neq rfl rfl rfl (s_pkF rfl rfl rfl (s_mv rfl rfl (Reg.gsplit (t := 166) rfl (fun hg279 => ?_) (fun hg279 => ?_)))))))))))
      ·replace h272 := cdT hg279 h272
       iterate 5 refine Reg.pass rfl rfl rfl rfl ?_
       refine s_pkT rfl rfl rfl (s_mv rfl rfl ?_)
       iterate 3 refine Reg.pass rfl rfl rfl rfl ?_
       iterate 8 refine Reg.passU rfl rfl rfl ?_
       refine Reg.pass rfl rfl rfl rfl (s_pkT rfl rfl rfl (Reg.nil ?_))
       obtain rfl := Option.some.inj h272
       refine ⟨rfl, true, ⟨rfl, rfl⟩, Sub.cons rfl (Sub.cons rfl (Sub.cons rfl (Sub.cons rfl (Sub.cons rfl (sb12 rfl rfl rfl rfl rfl rfl rfl rfl rfl rfl rfl rfl)))))⟩
      replace h272 := cdF hg279 h272
      refine Reg.take rfl rfl (s_fa rfl Tryd.underlying61 rfl Tryd.sizeOf3 rfl (Reg.take rfl rfl (s_ld rfl (hC270.cells.at 4 rfl) Tryd.isAgg3 rfl (Reg.take rfl rfl (s_fa rfl Tryd.underlying55 rfl Tryd.sizeOf3 rfl (Reg.take rfl rfl (s_ld rfl ((hC131.adv (hA137.trans (x218.trans (x222.trans (hA236.trans ((Adv.of_ext e252).trans (x265.trans (x268.trans (hI267.eraseH 0))))))))).cells.at 1 rfl) Tryd.isAgg3 rfl (Reg.take rfl rfl (s_lss rfl rfl rfl (s_pkF rfl rfl rfl (s_mv rfl rfl ?_)))))))))))
      refine Reg.gsplit (t := 173) rfl (fun hg280 => ?_) (fun hg280 => ?_)
      ·replace h272 := cdT hg280 h272
       iterate 3 refine Reg.pass rfl rfl rfl rfl ?_
       iterate 8 refine Reg.passU rfl rfl rfl ?_
       refine Reg.pass rfl rfl rfl rfl (s_pkT rfl rfl rfl (Reg.nil ?_))
       obtain rfl := Option.some.inj h272
       refine ⟨rfl, true, ⟨rfl, rfl⟩, Sub.cons rfl (Sub.cons rfl (Sub.cons rfl (Sub.cons rfl (Sub.cons rfl (sb12 rfl rfl rfl rfl rfl rfl rfl rfl rfl rfl rfl rfl)))))⟩
      replace h272 := cdF hg280 h272
      refine Reg.take rfl rfl (s_mv rfl rfl (Reg.take rfl rfl (s_gtr rfl rfl rfl (Reg.take rfl rfl (s_mv rfl rfl (Reg.gsplit (t := 176) rfl (fun hg281 => ?_) (fun hg281 => ?_)))))))
      ·replace h272 := cdT hg281 h272
       refine Reg.take rfl rfl (s_mv rfl rfl (Reg.take rfl rfl (s_fa rfl Tryd.underlying55 rfl Tryd.sizeOf36 rfl (Reg.take rfl rfl (s_ld rfl ((hC131.adv (hA137.trans (x218.trans (x222.trans (hA236.trans ((Adv.of_ext e252).trans (x265.trans (x268.trans (hI267.eraseH 0))))))))).cells.at 2 rfl) Tryd.isAgg36 rfl (Reg.take rfl rfl (s_mv rfl rfl (Reg.take rfl rfl ?_))))))))
       obtain ⟨n282, hn282, h272⟩ := bnd h272
       replace hn282 := chk_out hn282
       refine p_sub rfl rfl rfl hn282 ?_
       refine Reg.take rfl rfl ?_
       obtain ⟨y283, hy283, h272⟩ := bnd h272
       refine p_ia rfl rfl (hf122.adv (x126.trans (x129.trans ((hI128.eraseH 0).trans (hA137.trans (x218.trans (x222.trans (hA236.trans ((Adv.of_ext e252).trans (x265.trans (x268.trans (hI267.eraseH 0)))))))))))) hy283 Tryd.underlying36 Tryd.sizeOf3 rfl ?_
       intro b284 o285 cs286 hR287 hC288
       obtain ⟨rfl, r289⟩ := hR287
       refine Reg.take rfl rfl (s_ld rfl (hC288.cells.at 0 rfl) Tryd.isAgg3 rfl (Reg.take rfl rfl (s_leq rfl rfl rfl (Reg.take rfl rfl (s_pkT rfl rfl rfl (s_pkF rfl rfl rfl (Reg.nil ?_)))))))
       obtain rfl := Option.some.inj h272
       refine ⟨rfl, decide (y241 ≤ y283), ⟨rfl, rfl⟩, Sub.cons rfl (Sub.cons rfl (Sub.cons rfl (Sub.cons rfl (Sub.cons rfl (sb12 rfl rfl rfl rfl rfl rfl rfl rfl rfl rfl rfl rfl)))))⟩
      replace h272 := cdF hg281 h272
      iterate 8 refine Reg.pass rfl rfl rfl rfl ?_
      refine Reg.take rfl rfl (s_pkF rfl rfl rfl (s_pkF rfl rfl rfl (Reg.nil ?_)))
      obtain rfl := Option.some.inj h272
      refine ⟨rfl, false, ⟨rfl, rfl⟩, Sub.cons rfl (Sub.cons rfl (Sub.cons rfl (Sub.cons rfl (Sub.cons rfl (sb12 rfl rfl rfl rfl rfl rfl rfl rfl rfl rfl rfl rfl)))))⟩
     rintro x273 _ ⟨rfl, rfl⟩
     refine cw_cond rfl (fun hc290 => ?_) (fun hc290 => ?_)
     ·replace h238 := cdT hc290 h238
      refine cw_seq (cw_regF (s_as rfl rfl (Reg.nil (cw_ret ?_))))
      obtain rfl := Option.some.inj h238
      obtain rfl := hR239 _ rfl
      replace h110 := elimR h110
      obtain rfl := Option.some.inj h110
      obtain rfl := hR111 _ rfl
      replace h := elimR h
      obtain rfl := Option.some.inj h
      refine fin1 Tryd.results12 rfl ?_
      exact ⟨rfl, hI269.kp⟩
     replace h238 := cdF hc290 h238
     refine cw_skip (cw_seq (cw_regF (s_mv rfl rfl (s_fa rfl Tryd.underlying61 rfl Tryd.sizeOf3 rfl (s_ld rfl (hC270.cells.at 1 rfl) Tryd.isAgg3 rfl (y_upF 1 (a := z248.source) (z := true) hI269 rfl rfl rfl (show InK .i64 z248.source from r254) rfl ⟨_, rfl, .inr ⟨rfl, rfl⟩⟩ Tryd.underlying81 ?_))))))
     intro w291 hI292 x293
     refine Reg.nil (cw_regF (s_mv rfl rfl (s_fa rfl Tryd.underlying61 rfl Tryd.sizeOf3 rfl (s_ld rfl ((hC270.adv x293).cells.at 4 rfl) Tryd.isAgg3 rfl (s_fa rfl Tryd.underlying61 rfl Tryd.sizeOf3 rfl (s_ld rfl ((hC270.adv x293).cells.at 6 rfl) Tryd.isAgg3 rfl (s_bda2 Tryd.zeroValue83 rfl Tryd.underlying83 Tryd.sizeOf3 rfl rfl rfl rfl rfl ?_)))))))
     refine y_upF 0 (a := (Arr83.mk z248.about z248.cents)) (z := true) hI292 rfl rfl rfl (show InK .i64 z248.about ∧ InK .i64 z248.cents from ⟨r257, r259⟩) rfl ⟨_, rfl, .inr ⟨rfl, rfl⟩⟩ Tryd.underlying82 ?_
     intro w294 hI295 x296
     refine Reg.nil (cw_regF ?_)
     obtain ⟨n297, hn297, h238⟩ := bnd h238
     replace hn297 := chk_out hn297
     refine p_add rfl rfl rfl hn297 (s_mv rfl rfl (Reg.nil ?_))
     obtain rfl := Option.some.inj h238
     refine ⟨rfl, (n297, (fput x232 z248.source true), (fput x233 (Arr83.mk z248.about z248.cents) true)), ⟨⟨hI295, (hA236.trans ((Adv.of_ext e252).trans (x265.trans (x268.trans ((hI267.eraseH 0).trans (x293.trans x296)))))), hn297.2⟩, rfl⟩, Sub.cons rfl (Sub.cons rfl (Sub.cons rfl (sb12 rfl rfl rfl rfl rfl rfl rfl rfl rfl rfl rfl rfl)))⟩
    replace h238 := cdF hc240 h238
    refine cw_exit (exB_same ?_)
    obtain rfl := Option.some.inj h238
    obtain rfl := hR239 _ rfl
    refine ⟨rfl, (x232, x233), ⟨hI235, hA236, rfl⟩, sb12 rfl rfl rfl rfl rfl rfl rfl rfl rfl rfl rfl rfl⟩
   rintro ⟨x225, x226⟩ w227 ⟨hI228, hA229, rfl⟩
   replace h110 := elimL h110
   obtain ⟨j298, h299, h110⟩ := bnd h110
   refine cw_keep [17, 18, 19, 1, 2, 9, 10, 12, 14, 77, 78, 79] rfl (cw_seqD 3 (ι := Bool) (fun x300 => [(214, Value.bool x300)]) (fun x300 => fun w301 => w227 = w301 ∧ x300 = j298) ?_ ?_)
   ·refine cw_regF (s_fa rfl Tryd.underlying55 rfl Tryd.sizeOf5 rfl (s_ld rfl ((hC131.adv (hA137.trans (x218.trans (x222.trans hA229)))).cells.at 0 rfl) Tryd.isAgg5 rfl (s_eql rfl rfl rfl (s_mv rfl rfl (Reg.gsplit (t := 200) rfl (fun hg304 => ?_) (fun hg304 => ?_))))))
    ·replace h299 := cdT hg304 h299
     refine Reg.take rfl rfl (s_mv rfl rfl (Reg.take rfl rfl ?_))
     obtain ⟨n305, hn305, h299⟩ := bnd h299
     replace hn305 := chk_out hn305
     refine y_lenM 1 hI228 rfl rfl Tryd.underlying81 rfl ?_
     rw [← hn305.1]
     refine Reg.take rfl rfl (s_lss rfl rfl rfl (s_pkT rfl rfl rfl (s_mv rfl rfl (Reg.gsplit (t := 205) rfl (fun hg306 => ?_) (fun hg306 => ?_)))))
     ·replace h299 := cdT hg306 h299
      iterate 4 refine Reg.pass rfl rfl rfl rfl ?_
      iterate 3 refine Reg.passU rfl rfl rfl ?_
      refine Reg.pass rfl rfl rfl rfl (s_pkT rfl rfl rfl (Reg.nil ?_))
      obtain rfl := Option.some.inj h299
      refine ⟨rfl, true, ⟨rfl, rfl⟩, sb10 rfl rfl rfl rfl rfl rfl rfl rfl rfl rfl⟩
     replace h299 := cdF hg306 h299
     refine Reg.take rfl rfl (s_fa rfl Tryd.underlying55 rfl Tryd.sizeOf5 rfl (Reg.take rfl rfl (s_ld rfl ((hC131.adv (hA137.trans (x218.trans (x222.trans hA229)))).cells.at 0 rfl) Tryd.isAgg5 rfl (Reg.take rfl rfl (s_neq rfl rfl rfl (Reg.take rfl rfl (s_mv rfl rfl (Reg.gsplit (t := 209) rfl (fun hg307 => ?_) (fun hg307 => ?_)))))))))
     ·replace h299 := cdT hg307 h299
      refine Reg.take rfl rfl (s_mv rfl rfl (Reg.take rfl rfl ?_))
      obtain ⟨n308, hn308, h299⟩ := bnd h299
      replace hn308 := chk_out hn308
      refine y_lenM 0 hI228 rfl rfl Tryd.underlying82 rfl ?_
      rw [← hn308.1]
      refine Reg.take rfl rfl (s_lss rfl rfl rfl (Reg.take rfl rfl (s_pkT rfl rfl rfl (s_pkF rfl rfl rfl (Reg.nil ?_)))))
      obtain rfl := Option.some.inj h299
      refine ⟨rfl, decide (n308 < 2), ⟨rfl, rfl⟩, sb10 rfl rfl rfl rfl rfl rfl rfl rfl rfl rfl⟩
     replace h299 := cdF hg307 h299
     iterate 3 refine Reg.pass rfl rfl rfl rfl ?_
     refine Reg.take rfl rfl (s_pkF rfl rfl rfl (s_pkF rfl rfl rfl (Reg.nil ?_)))
     obtain rfl := Option.some.inj h299
     refine ⟨rfl, false, ⟨rfl, rfl⟩, sb10 rfl rfl rfl rfl rfl rfl rfl rfl rfl rfl⟩
    replace h299 := cdF hg304 h299
    iterate 3 refine Reg.pass rfl rfl rfl rfl ?_
    refine s_pkF rfl rfl rfl (s_mv rfl rfl (Reg.take rfl rfl (s_fa rfl Tryd.underlying55 rfl Tryd.sizeOf5 rfl (Reg.take rfl rfl (s_ld rfl ((hC131.adv (hA137.trans (x218.trans (x222.trans hA229)))).cells.at 0 rfl) Tryd.isAgg5 rfl (Reg.take rfl rfl (s_neq rfl rfl rfl (Reg.take rfl rfl (s_mv rfl rfl (Reg.gsplit (t := 209) rfl (fun hg309 => ?_) (fun hg309 => ?_)))))))))))
    ·replace h299 := cdT hg309 h299
     refine Reg.take rfl rfl (s_mv rfl rfl (Reg.take rfl rfl ?_))
     obtain ⟨n310, hn310, h299⟩ := bnd h299
     replace hn310 := chk_out hn310
     refine y_lenM 0 hI228 rfl rfl Tryd.underlying82 rfl ?_
     rw [← hn310.1]
     refine Reg.take rfl rfl (s_lss rfl rfl rfl (Reg.take rfl rfl (s_pkT rfl rfl rfl (s_pkF rfl rfl rfl (Reg.nil ?_)))))
     obtain rfl := Option.some.inj h299
     refine ⟨rfl, decide (n310 < 2), ⟨rfl, rfl⟩, sb10 rfl rfl rfl rfl rfl rfl rfl rfl rfl rfl⟩
    replace h299 := cdF hg309 h299
    iterate 3 refine Reg.pass rfl rfl rfl rfl ?_
    refine Reg.take rfl rfl (s_pkF rfl rfl rfl (s_pkF rfl rfl rfl (Reg.nil ?_)))
    obtain rfl := Option.some.inj h299
    refine ⟨rfl, false, ⟨rfl, rfl⟩, sb10 rfl rfl rfl rfl rfl rfl rfl rfl rfl rfl⟩
   rintro x300 _ ⟨rfl, rfl⟩
   refine cw_cond rfl (fun hc311 => ?_) (fun hc311 => ?_)
   ·replace h110 := cdT hc311 h110
    refine cw_seq (cw_regF (s_as rfl rfl (Reg.nil (cw_ret ?_))))
    obtain rfl := Option.some.inj h110
    obtain rfl := hR111 _ rfl
    replace h := elimR h
    obtain rfl := Option.some.inj h
    refine fin1 Tryd.results12 rfl ?_
    exact ⟨rfl, hI228.kp⟩
   replace h110 := cdF hc311 h110
   refine cw_skip (cw_regF ?_)
   obtain ⟨n312, hn312, h110⟩ := bnd h110
   replace hn312 := chk_out hn312
   refine p_add rfl rfl rfl hn312 (s_mv rfl rfl (Reg.nil ?_))
   obtain rfl := Option.some.inj h110
   refine ⟨rfl, n312, ⟨⟨(hI228.sel [2, 3] rfl), ((hA108.trans (x126.trans (x129.trans ((hI128.eraseH 0).trans (hA137.trans (x218.trans (x222.trans hA229))))))).trans (Hp.selA (σ := [mapO Ky83 boolE false b219 x226, mapO Ky3 boolE false b215 x225, ownR [] ReportE 61 v86 z81, ownR [] ClashE 55 v28 z23]) [2, 3])), hn312.2⟩, rfl⟩, sb9 rfl rfl rfl rfl rfl rfl rfl rfl rfl⟩
  replace h110 := cdF hc112 h110
  refine cw_exit (exB_same ?_)
  obtain rfl := Option.some.inj h110
  obtain rfl := hR111 _ rfl
  refine ⟨rfl, (), ⟨hI107, hA108, rfl⟩, sb4 rfl rfl rfl rfl⟩
 rintro _ w101 ⟨hI102, hA103, rfl⟩
 replace h := elimL h
 refine cw_seq (cw_regF (s_lda rfl (hC80.adv ((hI79.addOwnA e85 hf87).trans hA103)).cells Tryd.isAgg42 rfl Tryd.sizeOf42 rfl ?_))
 obtain ⟨⟨z313, z314⟩, hz315, h⟩ := bnd h
 refine s_call rfl Tryd.call32 rfl ((C_law03_things (s := (State.mk (Told.mk z32.opened.known z32.opened.cents z32.opened.since z32.opened.by_) (Told.mk z32.limit.known z32.limit.cents z32.limit.since z32.limit.by_) (Told.mk z32.owed.known z32.owed.cents z32.owed.since z32.owed.by_) (Told.mk z32.late.known z32.late.cents z32.late.since z32.late.by_) (Told.mk z32.default.known z32.default.cents z32.default.since z32.default.by_) (Told.mk z32.closed.known z32.closed.cents z32.closed.since z32.closed.by_) (Span.mk z32.paid.lo z32.paid.hi) z32.is_)) hI102.mlt r37 r38 r39 (hf41.adv (x75.trans (x78.trans ((hI77.eraseH 0).trans ((hI79.addOwnA e85 hf87).trans hA103))))) r42 r43 r44 (hf46.adv (x75.trans (x78.trans ((hI77.eraseH 0).trans ((hI79.addOwnA e85 hf87).trans hA103))))) r47 r48 r49 (hf51.adv (x75.trans (x78.trans ((hI77.eraseH 0).trans ((hI79.addOwnA e85 hf87).trans hA103))))) r52 r53 r54 (hf56.adv (x75.trans (x78.trans ((hI77.eraseH 0).trans ((hI79.addOwnA e85 hf87).trans hA103))))) r57 r58 r59 (hf61.adv (x75.trans (x78.trans ((hI77.eraseH 0).trans ((hI79.addOwnA e85 hf87).trans hA103))))) r62 r63 r64 (hf66.adv (x75.trans (x78.trans ((hI77.eraseH 0).trans ((hI79.addOwnA e85 hf87).trans hA103))))) r67 r68 r69 hz315).mono ?_)
 rintro _ w316 ⟨v318, v320, rfl, hf319, hf321, e317⟩
 refine ⟨_, rfl, ?_⟩
 have hI322 := hI102.addOwn e317 hf319
 refine s_mv rfl rfl (s_xt rfl rfl rfl (s_xt rfl rfl rfl (s_as rfl rfl (s_as rfl rfl (Reg.nil (cw_seq (cw_seq (cw_regF (s_mv rfl rfl (s_lenO rfl (hI322.ownAt 0 rfl) Tryd.underlying70 rfl ?_))))))))))
 refine s_mv rfl rfl (Reg.nil ?_)
 obtain ⟨j323, h324, h⟩ := bnd h
 refine cw_keep [25, 221, 222, 223, 2, 9, 10, 12] rfl (cw_unitD 4 (ι := Unit) (fun _ => []) (fun _ => fun w325 => Hp w [] M [ownR [] ToldE 38 v318 z313, ownR [] ReportE 61 v86 z81, ownR [] ClashE 55 v28 z23] w325 ∧ Adv (mm [ownR [] ToldE 38 v318 z313, ownR [] ReportE 61 v86 z81, ownR [] ClashE 55 v28 z23] M) (mm [ownR [] ToldE 38 v318 z313, ownR [] ReportE 61 v86 z81, ownR [] ClashE 55 v28 z23] M) w316 w325 ∧ (.inl ()) = j323) ?_ ?_)
 ·refine cw_block (cw_keep [223, 2, 9, 10, 12, 25, 221, 222] rfl ?_)
  refine cw_loopM 1 (ι := Int) _ (fun x328 => [(223, vi x328)]) (fun x328 => x328) (fun x328 => fun w330 => Hp w [] M [ownR [] ToldE 38 v318 z313, ownR [] ReportE 61 v86 z81, ownR [] ClashE 55 v28 z23] w330 ∧ Adv (mm [ownR [] ToldE 38 v318 z313, ownR [] ReportE 61 v86 z81, ownR [] ClashE 55 v28 z23] M) (mm [ownR [] ToldE 38 v318 z313, ownR [] ReportE 61 v86 z81, ownR [] ClashE 55 v28 z23] M) w316 w330 ∧ InK .i64 x328) 0 h324 ⟨hI322, (Adv.refl _ _), (by decide)⟩ (sb8 rfl rfl rfl rfl rfl rfl rfl rfl) ?_
  rintro x328 w330 ⟨hI331, hA332, r329⟩ y333 h334 hR335
  refine cw_seq (cw_regF (s_lss rfl rfl rfl (Reg.nil (cw_seq (cw_cond rfl (fun hc336 => ?_) (fun hc336 => ?_))))))
  ·replace h334 := cdT hc336 h334
   refine cw_skip ?_
   obtain ⟨j337, h338, h334⟩ := bnd h334
   refine cw_keep [2, 9, 10, 12, 25, 221, 222, 223] rfl (cw_seqD 0 (ι := Unit) (fun _ => []) (fun _ => fun w339 => Hp w [] M [ownR [] ToldE 38 v318 z313, ownR [] ReportE 61 v86 z81, ownR [] ClashE 55 v28 z23] w339 ∧ Adv (mm [ownR [] ToldE 38 v318 z313, ownR [] ReportE 61 v86 z81, ownR [] ClashE 55 v28 z23] M) (mm [ownR [] ToldE 38 v318 z313, ownR [] ReportE 61 v86 z81, ownR [] ClashE 55 v28 z23] M) w330 w339 ∧ (.inl ()) = j337) ?_ ?_)
   ·refine cw_block (cw_seq (cw_regF (s_mv rfl rfl ?_)))
    obtain ⟨y342, hy342, h338⟩ := bnd h338
    refine y_ia 0 hI331 rfl rfl rfl hy342 Tryd.underlying70 Tryd.sizeOf38 rfl ?_
    intro g343 cs344 hg345 hR346 hC347
    have khR346 := hR346
    obtain ⟨v351, rfl, r348, r349, r350, hf352⟩ := ToldE_R.1 hR346
    refine s_lda rfl hC347 Tryd.isAgg38 rfl Tryd.sizeOf38 rfl (y_al hI331 Tryd.zeroValue38 rfl rfl ?_)
    intro b353 w354 hI355 x356
    refine s_as rfl rfl (y_st 0 hI355 rfl rfl rfl rfl Tryd.sizeOf38 rfl rfl (one1 rfl (one1 rfl (one1 rfl (one1 (RdS.oneC hf352) one0)))) ?_)
    intro w357 hI358 x359
    have hC361 := hI358.freezeRow 0 rfl
    have hI360 := hI358.erase 0
    refine Reg.nil (cw_seq (cw_seq (cw_regF (s_fa rfl Tryd.underlying38 rfl Tryd.sizeOf5 rfl (s_ld rfl (hC361.cells.at 0 rfl) Tryd.isAgg5 rfl (s_neq rfl rfl rfl (Reg.nil (cw_cond rfl (fun hc362 => ?_) (fun hc362 => ?_)))))))))
    ·replace h338 := cdT hc362 h338
     refine cw_exit (exB_same ?_)
     obtain rfl := Option.some.inj h338
     refine ⟨rfl, (), ⟨hI360, (x356.trans (x359.trans (hI358.eraseH 0))), rfl⟩, sb8 rfl rfl rfl rfl rfl rfl rfl rfl⟩
    replace h338 := cdF hc362 h338
    refine cw_skip (cw_seq (cw_regF (s_as rfl rfl (Reg.nil (cw_seq (cw_seq (cw_regF (s_mv rfl rfl (s_lenO rfl (hI360.ownAt 2 rfl) Tryd.underlying47 rfl ?_)))))))))
    refine s_mv rfl rfl (Reg.nil ?_)
    obtain ⟨j363, h364, h338⟩ := bnd h338
    refine cw_sub (L := [(26, _), (28, _), (231, _), (232, _), (233, _), (2, _), (9, _), (10, _), (12, _), (25, _), (221, _), (222, _), (223, _)]) (Sub.cons rfl (sb12 rfl rfl rfl rfl rfl rfl rfl rfl rfl rfl rfl rfl)) (cw_unitD 5 (ι := Bool) (fun x365 => [(28, Value.bool x365)]) (fun x365 => fun w366 => Hp w [] M [ownR [] ToldE 38 v318 z313, ownR [] ReportE 61 v86 z81, ownR [] ClashE 55 v28 z23] w366 ∧ Adv (mm [ownR [] ToldE 38 v318 z313, ownR [] ReportE 61 v86 z81, ownR [] ClashE 55 v28 z23] M) (mm [ownR [] ToldE 38 v318 z313, ownR [] ReportE 61 v86 z81, ownR [] ClashE 55 v28 z23] M) w357 w366 ∧ x365 = j363) ?_ ?_)
    ·refine cw_block (cw_sub (L := [(28, _), (233, _), (2, _), (9, _), (10, _), (12, _), (25, _), (26, _), (221, _), (222, _), (223, _), (231, _), (232, _)]) (Sub.cons rfl (sb12 rfl rfl rfl rfl rfl rfl rfl rfl rfl rfl rfl rfl)) ?_)
     refine cw_loopM 2 (ι := Bool × Int) _ (fun ⟨x369, x370⟩ => [(28, Value.bool x369), (233, vi x370)]) (fun ⟨x369, x370⟩ => (x369, x370)) (fun ⟨x369, x370⟩ => fun w372 => Hp w [] M [ownR [] ToldE 38 v318 z313, ownR [] ReportE 61 v86 z81, ownR [] ClashE 55 v28 z23] w372 ∧ Adv (mm [ownR [] ToldE 38 v318 z313, ownR [] ReportE 61 v86 z81, ownR [] ClashE 55 v28 z23] M) (mm [ownR [] ToldE 38 v318 z313, ownR [] ReportE 61 v86 z81, ownR [] ClashE 55 v28 z23] M) w357 w372 ∧ InK .i64 x370) (false, 0) h364 ⟨hI360, (Adv.refl _ _), (by decide)⟩ (Sub.cons rfl (sb12 rfl rfl rfl rfl rfl rfl rfl rfl rfl rfl rfl rfl)) ?_
     rintro ⟨x369, x370⟩ w372 ⟨hI373, hA374, r371⟩ y375 h376 hR377
     refine cw_seq (cw_regF (s_lss rfl rfl rfl (Reg.nil (cw_seq (cw_cond rfl (fun hc378 => ?_) (fun hc378 => ?_))))))
     ·replace h376 := cdT hc378 h376
      refine cw_skip (cw_seq (cw_block (cw_seq (cw_regF ?_))))
      obtain ⟨y379, hy379, h376⟩ := bnd h376
      refine y_ia 2 hI373 rfl rfl rfl hy379 Tryd.underlying47 Tryd.sizeOf55 rfl ?_
      intro g380 cs381 hg382 hR383 hC384
      have khR383 := hR383
      obtain ⟨v387, rfl, r385, r386, hf388⟩ := ClashE_R.1 hR383
      refine s_lda rfl hC384 Tryd.isAgg55 rfl Tryd.sizeOf55 rfl (y_al hI373 Tryd.zeroValue55 rfl rfl ?_)
      intro b389 w390 hI391 x392
      refine y_st 0 hI391 rfl rfl rfl rfl Tryd.sizeOf55 rfl rfl (one1 rfl (one1 rfl (one1 (RdS.oneC hf388) one0))) ?_
      intro w393 hI394 x395
      have hC397 := hI394.freezeRow 0 rfl
      have hI396 := hI394.erase 0
      refine Reg.nil ?_
      obtain ⟨j398, h399, h376⟩ := bnd h376
      refine cw_sub (L := [(28, _), (30, _), (2, _), (9, _), (10, _), (12, _), (25, _), (26, _), (221, _), (222, _), (223, _), (231, _), (232, _), (233, _)]) (Sub.cons rfl (Sub.cons rfl (sb12 rfl rfl rfl rfl rfl rfl rfl rfl rfl rfl rfl rfl))) (cw_unitD 2 (ι := Bool) (fun x400 => [(28, Value.bool x400)]) (fun x400 => fun w401 => Hp w [] M [ownR [] ToldE 38 v318 z313, ownR [] ReportE 61 v86 z81, ownR [] ClashE 55 v28 z23] w401 ∧ Adv (mm [ownR [] ToldE 38 v318 z313, ownR [] ReportE 61 v86 z81, ownR [] ClashE 55 v28 z23] M) (mm [ownR [] ToldE 38 v318 z313, ownR [] ReportE 61 v86 z81, ownR [] ClashE 55 v28 z23] M) w393 w401 ∧ x400 = j398) ?_ ?_)
      ·refine cw_regT fol (by kernel_rfl) ?_
       refine s_mv rfl rfl (s_mv rfl rfl (Reg.gsplit (t := 238) rfl (fun hg404 => ?_) (fun hg404 => ?_)))
       ·replace h399 := cdT hg404 h399
        iterate 8 refine Reg.pass rfl rfl rfl rfl ?_
        iterate 4 refine Reg.passU rfl rfl rfl ?_
        refine Reg.pass rfl rfl rfl rfl (s_pkT rfl rfl rfl (s_as rfl rfl (Reg.nilq (fun w405 e406 => ?_))))
        have hI407 := hI396.ext e406
        obtain rfl := Option.some.inj h399
        refine ⟨rfl, true, ⟨hI407, (Adv.of_ext e406), rfl⟩, Sub.cons rfl (sb12 rfl rfl rfl rfl rfl rfl rfl rfl rfl rfl rfl rfl)⟩
       replace h399 := cdF hg404 h399
       refine Reg.take rfl rfl (s_fa rfl Tryd.underlying55 rfl Tryd.sizeOf5 rfl (Reg.take rfl rfl (s_ld rfl (hC397.cells.at 0 rfl) Tryd.isAgg5 rfl (Reg.take rfl rfl (s_mv rfl rfl (Reg.take rfl rfl (s_mv rfl rfl (Reg.take rfl rfl ?_))))))))
       obtain ⟨y408, hy408, h399⟩ := bnd h399
       refine p_ia rfl rfl (hf321.adv (hA332.trans (x356.trans (x359.trans ((hI358.eraseH 0).trans (hA374.trans (x392.trans (x395.trans (hI394.eraseH 0))))))))) hy408 Tryd.underlying71 Tryd.sizeOf5 rfl ?_
       intro b409 o410 cs411 hR412 hC413
       obtain ⟨rfl, r414⟩ := hR412
       refine Reg.take rfl rfl (s_ld rfl (hC413.cells.at 0 rfl) Tryd.isAgg5 rfl (Reg.take rfl rfl (s_eql rfl rfl rfl (Reg.take rfl rfl (s_mv rfl rfl (Reg.gsplit (t := 246) rfl (fun hg415 => ?_) (fun hg415 => ?_)))))))
       ·replace h399 := cdT hg415 h399
        refine Reg.take rfl rfl (s_fa rfl Tryd.underlying55 rfl Tryd.sizeOf3 rfl (Reg.take rfl rfl (s_ld rfl (hC397.cells.at 1 rfl) Tryd.isAgg3 rfl (Reg.take rfl rfl (s_mv rfl rfl (Reg.take rfl rfl (s_leq rfl rfl rfl (Reg.take rfl rfl (s_pkT rfl rfl rfl (s_pkF rfl rfl rfl (s_as rfl rfl ?_)))))))))))
        refine Reg.nilq (fun w416 e417 => ?_)
        have hI418 := hI396.ext e417
        obtain rfl := Option.some.inj h399
        refine ⟨rfl, decide (y379.about ≤ day), ⟨hI418, (Adv.of_ext e417), rfl⟩, Sub.cons rfl (sb12 rfl rfl rfl rfl rfl rfl rfl rfl rfl rfl rfl rfl)⟩
       replace h399 := cdF hg415 h399
       iterate 4 refine Reg.pass rfl rfl rfl rfl ?_
       refine Reg.take rfl rfl (s_pkF rfl rfl rfl (s_pkF rfl rfl rfl (s_as rfl rfl (Reg.nilq (fun w419 e420 => ?_)))))
       have hI421 := hI396.ext e420
       obtain rfl := Option.some.inj h399
       refine ⟨rfl, false, ⟨hI421, (Adv.of_ext e420), rfl⟩, Sub.cons rfl (sb12 rfl rfl rfl rfl rfl rfl rfl rfl rfl rfl rfl rfl)⟩
      rintro x400 w401 ⟨hI402, hA403, rfl⟩
      refine cw_regF ?_
      obtain ⟨n422, hn422, h376⟩ := bnd h376
      replace hn422 := chk_out hn422
      refine p_add rfl rfl rfl hn422 (s_mv rfl rfl (Reg.nil ?_))
      obtain rfl := Option.some.inj h376
      refine ⟨rfl, (x400, n422), ⟨⟨hI402, (hA374.trans (x392.trans (x395.trans ((hI394.eraseH 0).trans hA403)))), hn422.2⟩, rfl⟩, Sub.cons rfl (sb12 rfl rfl rfl rfl rfl rfl rfl rfl rfl rfl rfl rfl)⟩
     replace h376 := cdF hc378 h376
     refine cw_exit (exB_same ?_)
     obtain rfl := Option.some.inj h376
     obtain rfl := hR377 _ rfl
     refine ⟨rfl, x369, ⟨hI373, hA374, rfl⟩, sb9 rfl rfl rfl rfl rfl rfl rfl rfl rfl⟩
    rintro x365 w366 ⟨hI367, hA368, rfl⟩
    refine cw_seq (cw_regF (s_mv rfl rfl (s_not rfl rfl (Reg.nil (cw_cond rfl (fun hc423 => ?_) (fun hc423 => ?_))))))
    ·replace h338 := cdT hc423 h338
     refine cw_seq (cw_regF (s_as rfl rfl (Reg.nil (cw_ret ?_))))
     obtain rfl := Option.some.inj h338
     replace h334 := elimR h334
     obtain rfl := Option.some.inj h334
     obtain rfl := hR335 _ rfl
     replace h := elimR h
     obtain rfl := Option.some.inj h
     refine fin1 Tryd.results12 rfl ?_
     exact ⟨rfl, hI367.kp⟩
    replace h338 := cdF hc423 h338
    refine cw_skip ?_
    obtain rfl := Option.some.inj h338
    refine ⟨rfl, (), ⟨hI367, (x356.trans (x359.trans ((hI358.eraseH 0).trans hA368))), rfl⟩, sb8 rfl rfl rfl rfl rfl rfl rfl rfl⟩
   rintro _ w339 ⟨hI340, hA341, rfl⟩
   replace h334 := elimL h334
   refine cw_regF ?_
   obtain ⟨n424, hn424, h334⟩ := bnd h334
   replace hn424 := chk_out hn424
   refine p_add rfl rfl rfl hn424 (s_mv rfl rfl (Reg.nil ?_))
   obtain rfl := Option.some.inj h334
   refine ⟨rfl, n424, ⟨⟨hI340, (hA332.trans hA341), hn424.2⟩, rfl⟩, sb8 rfl rfl rfl rfl rfl rfl rfl rfl⟩
  replace h334 := cdF hc336 h334
  refine cw_exit (exB_same ?_)
  obtain rfl := Option.some.inj h334
  obtain rfl := hR335 _ rfl
  refine ⟨rfl, (), ⟨hI331, hA332, rfl⟩, sb4 rfl rfl rfl rfl⟩
 rintro _ w325 ⟨hI326, hA327, rfl⟩
 replace h := elimL h
 refine cw_seq (cw_seq (cw_regF (s_fa rfl Tryd.underlying42 rfl Tryd.sizeOf40 rfl (s_fa rfl Tryd.underlying40 rfl Tryd.sizeOf3 rfl (s_ld rfl ((hC80.adv ((hI79.addOwnA e85 hf87).trans (hA103.trans ((hI102.addOwnA e317 hf319).trans hA327)))).cells.at 24 rfl) Tryd.isAgg3 rfl (s_fa rfl Tryd.underlying42 rfl Tryd.sizeOf40 rfl (s_fa rfl Tryd.underlying40 rfl Tryd.sizeOf3 rfl (s_ld rfl ((hC80.adv ((hI79.addOwnA e85 hf87).trans (hA103.trans ((hI102.addOwnA e317 hf319).trans hA327)))).cells.at 25 rfl) Tryd.isAgg3 rfl (s_eql rfl rfl rfl (Reg.nil (cw_cond rfl (fun hc425 => ?_) (fun hc425 => ?_))))))))))))
 ·replace h := cdT hc425 h
  refine cw_seq (cw_regF (s_mv rfl rfl (s_as rfl rfl (Reg.nil (cw_ret ?_)))))
  obtain rfl := Option.some.inj h
  refine fin1 Tryd.results12 rfl ?_
  exact ⟨rfl, hI326.kp⟩
 replace h := cdF hc425 h
 refine cw_skip (cw_seq (cw_seq (cw_regF (s_mv rfl rfl (s_lenO rfl (hI326.ownAt 2 rfl) Tryd.underlying47 rfl ?_)))))
 refine s_mv rfl rfl (Reg.nil ?_)
 obtain ⟨j426, h427, h⟩ := bnd h
 refine cw_keep [2, 9, 265, 266, 267] rfl (cw_unitD 5 (ι := Unit) (fun _ => []) (fun _ => fun w428 => Hp w [] M [ownR [] ToldE 38 v318 z313, ownR [] ReportE 61 v86 z81, ownR [] ClashE 55 v28 z23] w428 ∧ Adv (mm [ownR [] ToldE 38 v318 z313, ownR [] ReportE 61 v86 z81, ownR [] ClashE 55 v28 z23] M) (mm [ownR [] ToldE 38 v318 z313, ownR [] ReportE 61 v86 z81, ownR [] ClashE 55 v28 z23] M) w325 w428 ∧ (.inl ()) = j426) ?_ ?_)
 ·refine cw_block (cw_keep [267, 2, 9, 265, 266] rfl ?_)
  refine cw_loopM 1 (ι := Int) _ (fun x431 => [(267, vi x431)]) (fun x431 => x431) (fun x431 => fun w433 => Hp w [] M [ownR [] ToldE 38 v318 z313, ownR [] ReportE 61 v86 z81, ownR [] ClashE 55 v28 z23] w433 ∧ Adv (mm [ownR [] ToldE 38 v318 z313, ownR [] ReportE 61 v86 z81, ownR [] ClashE 55 v28 z23] M) (mm [ownR [] ToldE 38 v318 z313, ownR [] ReportE 61 v86 z81, ownR [] ClashE 55 v28 z23] M) w325 w433 ∧ InK .i64 x431) 0 h427 ⟨hI326, (Adv.refl _ _), (by decide)⟩ (sb5 rfl rfl rfl rfl rfl) ?_
  rintro x431 w433 ⟨hI434, hA435, r432⟩ y436 h437 hR438
  refine cw_seq (cw_regF (s_lss rfl rfl rfl (Reg.nil (cw_seq (cw_cond rfl (fun hc439 => ?_) (fun hc439 => ?_))))))
  ·replace h437 := cdT hc439 h437
   refine cw_skip (cw_seq (cw_block (cw_seq (cw_regF ?_))))
   obtain ⟨y440, hy440, h437⟩ := bnd h437
   refine y_ia 2 hI434 rfl rfl rfl hy440 Tryd.underlying47 Tryd.sizeOf55 rfl ?_
   intro g441 cs442 hg443 hR444 hC445
   have khR444 := hR444
   obtain ⟨v448, rfl, r446, r447, hf449⟩ := ClashE_R.1 hR444
   refine s_lda rfl hC445 Tryd.isAgg55 rfl Tryd.sizeOf55 rfl (y_al hI434 Tryd.zeroValue55 rfl rfl ?_)
   intro b450 w451 hI452 x453
   refine y_st 0 hI452 rfl rfl rfl rfl Tryd.sizeOf55 rfl rfl (one1 rfl (one1 rfl (one1 (RdS.oneC hf449) one0))) ?_
   intro w454 hI455 x456
   have hC458 := hI455.freezeRow 0 rfl
   have hI457 := hI455.erase 0
   refine Reg.nil ?_
   obtain ⟨j459, h460, h437⟩ := bnd h437
   refine cw_keep [32, 2, 9, 265, 266, 267] rfl (cw_seqD 1 (ι := Bool) (fun x461 => [(279, Value.bool x461)]) (fun x461 => fun w462 => w454 = w462 ∧ x461 = j459) ?_ ?_)
   ·refine cw_regF (s_fa rfl Tryd.underlying55 rfl Tryd.sizeOf5 rfl (s_ld rfl (hC458.cells.at 0 rfl) Tryd.isAgg5 rfl (s_eql rfl rfl rfl (s_mv rfl rfl (Reg.gsplit (t := 274) rfl (fun hg465 => ?_) (fun hg465 => ?_))))))
    ·replace h460 := cdT hg465 h460
     refine Reg.take rfl rfl (s_fa rfl Tryd.underlying55 rfl Tryd.sizeOf3 rfl (Reg.take rfl rfl (s_ld rfl (hC458.cells.at 1 rfl) Tryd.isAgg3 rfl (Reg.take rfl rfl (s_mv rfl rfl (Reg.take rfl rfl (s_leq rfl rfl rfl (s_pkT rfl rfl rfl (Reg.nil ?_)))))))))
     obtain rfl := Option.some.inj h460
     refine ⟨rfl, decide (y440.about ≤ day), ⟨rfl, rfl⟩, sb6 rfl rfl rfl rfl rfl rfl⟩
    replace h460 := cdF hg465 h460
    iterate 4 refine Reg.pass rfl rfl rfl rfl ?_
    refine s_pkF rfl rfl rfl (Reg.nil ?_)
    obtain rfl := Option.some.inj h460
    refine ⟨rfl, false, ⟨rfl, rfl⟩, sb6 rfl rfl rfl rfl rfl rfl⟩
   rintro x461 _ ⟨rfl, rfl⟩
   refine cw_cond rfl (fun hc466 => ?_) (fun hc466 => ?_)
   ·replace h437 := cdT hc466 h437
    refine cw_seq (cw_regF (s_mv rfl rfl (s_as rfl rfl (Reg.nil (cw_ret ?_)))))
    obtain rfl := Option.some.inj h437
    obtain rfl := hR438 _ rfl
    replace h := elimR h
    obtain rfl := Option.some.inj h
    refine fin1 Tryd.results12 rfl ?_
    exact ⟨rfl, hI457.kp⟩
   replace h437 := cdF hc466 h437
   refine cw_skip (cw_regF ?_)
   obtain ⟨n467, hn467, h437⟩ := bnd h437
   replace hn467 := chk_out hn467
   refine p_add rfl rfl rfl hn467 (s_mv rfl rfl (Reg.nil ?_))
   obtain rfl := Option.some.inj h437
   refine ⟨rfl, n467, ⟨⟨hI457, (hA435.trans (x453.trans (x456.trans (hI455.eraseH 0)))), hn467.2⟩, rfl⟩, sb5 rfl rfl rfl rfl rfl⟩
  replace h437 := cdF hc439 h437
  refine cw_exit (exB_same ?_)
  obtain rfl := Option.some.inj h437
  obtain rfl := hR438 _ rfl
  refine ⟨rfl, (), ⟨hI434, hA435, rfl⟩, Sub.nil _⟩
 rintro _ w428 ⟨hI429, hA430, rfl⟩
 replace h := elimL h
 refine cw_seq (cw_regF (s_as rfl rfl (Reg.nil (cw_ret ?_))))
 obtain rfl := Option.some.inj h
 refine fin1 Tryd.results12 rfl ?_
 exact ⟨rfl, hI429.kp⟩
end Go.Proofs.YtepjkmoipjeghaaDoor
