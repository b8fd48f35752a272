/-
  Part 8 of the texts that the statement's proof stands on: what memory holds, how code is walked, what the functions reckon. In the order in which they build.
-/
import Derived.Test.YtepjkmoipjeghaaDoorProg
import Derived.Test.YtepjkmoipjeghaaDoorAp7
set_option linter.unusedVariables false
set_option linter.unusedSectionVars false
set_option maxRecDepth 20000
set_option maxHeartbeats 4000000
namespace Go.Proofs.YtepjkmoipjeghaaDoor
open Go Go.Sx Go.RowKit
noncomputable def P.law03_rep (id : Int) (source : Int) (made : Int) (kind : Int) (about : Int) (cents : Int) (of_ : Int) : Option Report :=
  some (Report.mk id source 5 made about kind cents of_)
theorem C_law03_rep {M : List Nat} {w : World} (hM : MLt M w) {id : Int} (f_id_0 : InK .i64 id) {source : Int} (f_source_0 : InK .i64 source) {made : Int} (f_made_0 : InK .i64 made) {kind : Int} (f_kind_0 : InK .u8 kind) {about : Int} (f_about_0 : InK .i64 about) {cents : Int} (f_cents_0 : InK .i64 cents) {of_ : Int} (f_of__0 : InK .i64 of_) {r0 : Report} (h : P.law03_rep id source made kind about cents of_ = some r0) :
  Calls Tryd.prog 29 (List.toArray [vi id, vi source, vi made, vu kind, vi about, vi cents, vi of_]) w fun e w' => e = .returned (Value.agg (List.toArray (vR r0))) ∧ InK .i64 r0.id ∧ InK .i64 r0.source ∧ InK .i64 r0.account ∧ InK .i64 r0.made ∧ InK .i64 r0.about ∧ InK .u8 r0.kind ∧ InK .i64 r0.cents ∧ InK .i64 r0.of_ ∧ Ext w w' := by
 have hI := Hp.start (Mu := []) hM
 refine calls_cw Tryd.func29 rfl Tryd.ntmps29 rfl ?_
 refine cw_seq (cw_regF (y_al hI Tryd.zeroValue61 rfl rfl ?_))
 intro b1 w2 hI3 x4
 refine Reg.nil (cw_seq (cw_regF ?_))
 iterate 7 refine s_mv rfl rfl ?_
 refine s_bd [(0, 1), (1, 1), (2, 1), (3, 1), (4, 1), (5, 1), (6, 1), (7, 1)] Tryd.zeroValue61 rfl Tryd.underlying61 (fun _ => by simp [Tryd.sizeOf3, Tryd.sizeOf5]) rfl (Cls.cons rfl (Cls.cons rfl (Cls.cons rfl (Cls.cons rfl (Cls.cons rfl (Cls.cons rfl (Cls.cons rfl (Cls.cons rfl (Cls.nil))))))))) rfl rfl ?_
 refine y_st 0 hI3 rfl rfl rfl rfl Tryd.sizeOf61 rfl rfl (on8 rfl rfl rfl rfl rfl rfl rfl rfl) ?_
 intro w5 hI6 x7
 refine Reg.nil (cw_ret ?_)
 obtain rfl := Option.some.inj h
 refine fin_any Tryd.results29 (AllRs.cons (RsOk.agg rfl (hI6.row 0 rfl).rd.cells Tryd.isAgg61 rfl Tryd.sizeOf61) (AllRs.nil)) rfl ?_
 exact ⟨rfl, f_id_0, f_source_0, (show InK .i64 5 by decide), f_made_0, f_about_0, f_kind_0, f_cents_0, f_of__0, hI6.kp⟩
noncomputable def P.law03_reports  : Option (List Report) :=
  Option.bind (P.law03_rep 1 70 10 1 8 0 0) fun z1 => Option.bind (P.law03_rep 2 70 20 3 15 500 0) fun z14 => Option.bind (P.law03_rep 3 80 21 3 15 520 0) fun z27 => Option.bind (P.law03_rep 4 70 30 5 29 35 0) fun z40 => Option.bind (P.law03_rep 5 70 40 8 15 520 2) fun z53 => Option.bind (P.law03_rep 6 70 41 9 0 0 4) fun z66 => Option.bind (P.law03_rep 7 70 50 4 45 100 0) fun z79 => Option.bind (P.law03_rep 8 80 50 4 45 100 0) fun z92 => Option.bind (P.law03_rep 9 80 51 4 45 30 0) fun z105 => some ([z1, z14, z27, z40, z53, z66, z79, z92, z105] : List Report)
theorem C_law03_reports {M : List Nat} {w : World} (hM : MLt M w)  {r0 : (List Report)} (h : P.law03_reports  = some r0) :
  Calls Tryd.prog 27 (List.toArray []) w fun e w' => ∃ v0_0 : Value, e = .returned (v0_0) ∧ (Sx.Own ReportE 61 0 M w' v0_0 r0 ∧ ∀ b ∈ ob v0_0, w.heap.size ≤ b) ∧ Ext w w' := by
 have hI := Hp.start (Mu := []) hM
 refine calls_cw Tryd.func27 rfl Tryd.ntmps27 rfl ?_
 refine cw_seq (cw_regF (s_as rfl rfl (Reg.nil (cw_seq (cw_regF ?_)))))
 obtain ⟨z1, hz2, h⟩ := bnd h
 refine s_call rfl Tryd.call29 rfl ?_
 refine (C_law03_rep hI.mlt (by decide) (by decide) (by decide) (by decide) (by decide) (by decide) (by decide) hz2).mono ?_
 rintro _ w3 ⟨rfl, r5, r6, r7, r8, r9, r10, r11, r12, e4⟩
 refine ⟨_, rfl, ?_⟩
 have hI13 := hI.ext e4
 obtain ⟨z14, hz15, h⟩ := bnd h
 refine s_call rfl Tryd.call29 rfl ?_
 refine (C_law03_rep hI13.mlt (by decide) (by decide) (by decide) (by decide) (by decide) (by decide) (by decide) hz15).mono ?_
 rintro _ w16 ⟨rfl, r18, r19, r20, r21, r22, r23, r24, r25, e17⟩
 refine ⟨_, rfl, ?_⟩
 have hI26 := hI13.ext e17
 obtain ⟨z27, hz28, h⟩ := bnd h
 refine s_call rfl Tryd.call29 rfl ?_
 refine (C_law03_rep hI26.mlt (by decide) (by decide) (by decide) (by decide) (by decide) (by decide) (by decide) hz28).mono ?_
 rintro _ w29 ⟨rfl, r31, r32, r33, r34, r35, r36, r37, r38, e30⟩
 refine ⟨_, rfl, ?_⟩
 have hI39 := hI26.ext e30
 obtain ⟨z40, hz41, h⟩ := bnd h
 refine s_call rfl Tryd.call29 rfl ?_
 refine (C_law03_rep hI39.mlt (by decide) (by decide) (by decide) (by decide) (by decide) (by decide) (by decide) hz41).mono ?_
 rintro _ w42 ⟨rfl, r44, r45, r46, r47, r48, r49, r50, r51, e43⟩
 refine ⟨_, rfl, ?_⟩
 have hI52 := hI39.ext e43
 obtain ⟨z53, hz54, h⟩ := bnd h
 refine s_call rfl Tryd.call29 rfl ?_
 refine (C_law03_rep hI52.mlt (by decide) (by decide) (by decide) (by decide) (by decide) (by decide) (by decide) hz54).mono ?_
 rintro _ w55 ⟨rfl, r57, r58, r59, r60, r61, r62, r63, r64, e56⟩
 refine ⟨_, rfl, ?_⟩
 have hI65 := hI52.ext e56
 obtain ⟨z66, hz67, h⟩ := bnd h
 refine s_call rfl Tryd.call29 rfl ?_
 refine (C_law03_rep hI65.mlt (by decide) (by decide) (by decide) (by decide) (by decide) (by decide) (by decide) hz67).mono ?_
 rintro _ w68 ⟨rfl, r70, r71, r72, r73, r74, r75, r76, r77, e69⟩
 refine ⟨_, rfl, ?_⟩
 have hI78 := hI65.ext e69
 obtain ⟨z79, hz80, h⟩ := bnd h
 refine s_call rfl Tryd.call29 rfl ?_
 refine (C_law03_rep hI78.mlt (by decide) (by decide) (by decide) (by decide) (by decide) (by decide) (by decide) hz80).mono ?_
 rintro _ w81 ⟨rfl, r83, r84, r85, r86, r87, r88, r89, r90, e82⟩
 refine ⟨_, rfl, ?_⟩
 have hI91 := hI78.ext e82
 obtain ⟨z92, hz93, h⟩ := bnd h
 refine s_call rfl Tryd.call29 rfl ?_
 refine (C_law03_rep hI91.mlt (by decide) (by decide) (by decide) (by decide) (by decide) (by decide) (by decide) hz93).mono ?_
 rintro _ w94 ⟨rfl, r96, r97, r98, r99, r100, r101, r102, r103, e95⟩
 refine ⟨_, rfl, ?_⟩
 have hI104 := hI91.ext e95
 obtain ⟨z105, hz106, h⟩ := bnd h
 refine s_call rfl Tryd.call29 rfl ?_
 refine (C_law03_rep hI104.mlt (by decide) (by decide) (by decide) (by decide) (by decide) (by decide) (by decide) hz106).mono ?_
 rintro _ w107 ⟨rfl, r109, r110, r111, r112, r113, r114, r115, r116, e108⟩
 refine ⟨_, rfl, ?_⟩
 have hI117 := hI104.ext e108
 refine y_bs (E := ReportE) (xs := [z1, z14, z27, z40, z53, z66, z79, z92, z105]) sl22 hI117 rfl rfl (Cls.cons rfl (Cls.cons rfl (Cls.cons rfl (Cls.cons rfl (Cls.cons rfl (Cls.cons rfl (Cls.cons rfl (Cls.cons rfl (Cls.cons rfl Cls.nil))))))))) (Chs.cons ((ReportE_R (x := z1)).2 ⟨rfl, r5, r6, r7, r8, r9, r10, r11, r12⟩) (Chs.cons ((ReportE_R (x := z14)).2 ⟨rfl, r18, r19, r20, r21, r22, r23, r24, r25⟩) (Chs.cons ((ReportE_R (x := z27)).2 ⟨rfl, r31, r32, r33, r34, r35, r36, r37, r38⟩) (Chs.cons ((ReportE_R (x := z40)).2 ⟨rfl, r44, r45, r46, r47, r48, r49, r50, r51⟩) (Chs.cons ((ReportE_R (x := z53)).2 ⟨rfl, r57, r58, r59, r60, r61, r62, r63, r64⟩) (Chs.cons ((ReportE_R (x := z66)).2 ⟨rfl, r70, r71, r72, r73, r74, r75, r76, r77⟩) (Chs.cons ((ReportE_R (x := z79)).2 ⟨rfl, r83, r84, r85, r86, r87, r88, r89, r90⟩) (Chs.cons ((ReportE_R (x := z92)).2 ⟨rfl, r96, r97, r98, r99, r100, r101, r102, r103⟩) (Chs.cons ((ReportE_R (x := z105)).2 ⟨rfl, r109, r110, r111, r112, r113, r114, r115, r116⟩) Chs.nil))))))))) rfl rfl ?_
 intro v118 w119 hI120 x121
 refine s_as rfl rfl (Reg.nil (cw_ret ?_))
 obtain rfl := Option.some.inj h
 refine fin1 Tryd.results27 rfl ?_
 exact ⟨_, rfl, (hI120.ownOut 0 rfl), hI120.kp⟩
noncomputable def P.law03_told (known : Int) (cents : Int) (since : Int) (by_ : (List Int)) : Option Told :=
  some (Told.mk known cents since by_)
theorem C_law03_told {M : List Nat} {w : World} (hM : MLt M w) {known : Int} (f_known_0 : InK .u8 known) {cents : Int} (f_cents_0 : InK .i64 cents) {since : Int} (f_since_0 : InK .i64 since) {by_ : (List Int)} {v_by__0 : Value} (f_by__0 : RdS (intE .i64) M w v_by__0 by_) {r0 : Told} (h : P.law03_told known cents since by_ = some r0) :
  Calls Tryd.prog 28 (List.toArray [vu known, vi cents, vi since, v_by__0]) w fun e w' => ∃ v0_3 : Value, e = .returned (Value.agg (List.toArray (tV r0 v0_3 []))) ∧ InK .u8 r0.known ∧ InK .i64 r0.cents ∧ InK .i64 r0.since ∧ RdS (intE .i64) M w' v0_3 r0.by_ ∧ Ext w w' := by
 have hI := Hp.start (Mu := []) hM
 refine calls_cw Tryd.func28 rfl Tryd.ntmps28 rfl ?_
 refine cw_seq (cw_regF (y_al hI Tryd.zeroValue38 rfl rfl ?_))
 intro b1 w2 hI3 x4
 refine Reg.nil (cw_seq (cw_regF ?_))
 iterate 4 refine s_mv rfl rfl ?_
 refine s_bd [(0, 1), (1, 1), (2, 1), (3, 1)] Tryd.zeroValue38 rfl Tryd.underlying38 (fun _ => by simp [Tryd.sizeOf3, Tryd.sizeOf36, Tryd.sizeOf5]) rfl (Cls.cons rfl (Cls.cons rfl (Cls.cons rfl (Cls.cons (RdS.cells1 f_by__0) (Cls.nil))))) rfl rfl ?_
 refine y_st 0 hI3 rfl rfl rfl rfl Tryd.sizeOf38 rfl rfl (one1 rfl (one1 rfl (one1 rfl (one1 (RdS.oneC f_by__0) one0)))) ?_
 intro w5 hI6 x7
 refine Reg.nil (cw_ret ?_)
 obtain rfl := Option.some.inj h
 refine fin_any Tryd.results28 (AllRs.cons (RsOk.agg rfl (hI6.row 0 rfl).rd.cells Tryd.isAgg38 rfl Tryd.sizeOf38) (AllRs.nil)) rfl ?_
 exact ⟨_, rfl, f_known_0, f_cents_0, f_since_0, ((f_by__0.adv hI6.adv).adv hI6.baseH), hI6.kp⟩
noncomputable def P.law03_alive  : Option Bool :=
  Option.bind (P.law03_reports ) fun z1 => Option.bind (P.account_State z1 5 20 25) fun (z10, z11) => Option.bind (P.law03_reports ) fun z59 => Option.bind (P.account_State z59 5 30 35) fun (z68, z69) => Option.bind (P.law03_reports ) fun z117 => Option.bind (P.account_State z117 5 60 60) fun (z126, z127) => Option.bind (P.law03_reports ) fun z175 => Option.bind (P.account_Fate z175 4 45) fun (z182, z183, z184) => Option.bind (P.law03_reports ) fun z192 => Option.bind (P.account_Clashes z192 5 60) fun (z201, z202) => Option.bind (P.law03_reports ) fun z210 => Option.bind (P.account_Standing z210 45) fun (z219, z220) => Option.bind (P.law03_told 2 0 8 ([1] : List Int)) fun z234 => Option.bind (cond (decide (z11 = 0)) (Option.bind (P.law03_told 1 0 15 ([2, 3] : List Int)) fun z263 => Option.bind (P.ref03_SameState (State.mk (Told.mk z10.opened.known z10.opened.cents z10.opened.since z10.opened.by_) (Told.mk z10.limit.known z10.limit.cents z10.limit.since z10.limit.by_) (Told.mk z10.owed.known z10.owed.cents z10.owed.since z10.owed.by_) (Told.mk z10.late.known z10.late.cents z10.late.since z10.late.by_) (Told.mk z10.default.known z10.default.cents z10.default.since z10.default.by_) (Told.mk z10.closed.known z10.closed.cents z10.closed.since z10.closed.by_) (Span.mk z10.paid.lo z10.paid.hi) z10.is_) (State.mk (Told.mk z234.known z234.cents z234.since z234.by_) (Told.mk 0 0 0 []) (Told.mk z263.known z263.cents z263.since z263.by_) (Told.mk 0 0 0 []) (Told.mk 0 0 0 []) (Told.mk 0 0 0 []) (Span.mk 0 0) 1)) fun z324 => cond z324 (cond (decide (z69 = 0)) (Option.bind (P.law03_told 1 0 15 ([2, 3] : List Int)) fun z341 => Option.bind (P.law03_told 2 35 29 ([4] : List Int)) fun z361 => Option.bind (P.ref03_SameState (State.mk (Told.mk z68.opened.known z68.opened.cents z68.opened.since z68.opened.by_) (Told.mk z68.limit.known z68.limit.cents z68.limit.since z68.limit.by_) (Told.mk z68.owed.known z68.owed.cents z68.owed.since z68.owed.by_) (Told.mk z68.late.known z68.late.cents z68.late.since z68.late.by_) (Told.mk z68.default.known z68.default.cents z68.default.since z68.default.by_) (Told.mk z68.closed.known z68.closed.cents z68.closed.since z68.closed.by_) (Span.mk z68.paid.lo z68.paid.hi) z68.is_) (State.mk (Told.mk z234.known z234.cents z234.since z234.by_) (Told.mk 0 0 0 []) (Told.mk z341.known z341.cents z341.since z341.by_) (Told.mk z361.known z361.cents z361.since z361.by_) (Told.mk 0 0 0 []) (Told.mk 0 0 0 []) (Span.mk 0 0) 2)) fun z432 => cond z432 (cond (decide (z127 = 0)) (Option.bind (P.law03_told 2 520 15 ([2, 3] : List Int)) fun z449 => Option.bind (P.ref03_SameState (State.mk (Told.mk z126.opened.known z126.opened.cents z126.opened.since z126.opened.by_) (Told.mk z126.limit.known z126.limit.cents z126.limit.since z126.limit.by_) (Told.mk z126.owed.known z126.owed.cents z126.owed.since z126.owed.by_) (Told.mk z126.late.known z126.late.cents z126.late.since z126.late.by_) (Told.mk z126.default.known z126.default.cents z126.default.since z126.default.by_) (Told.mk z126.closed.known z126.closed.cents z126.closed.since z126.closed.by_) (Span.mk z126.paid.lo z126.paid.hi) z126.is_) (State.mk (Told.mk z234.known z234.cents z234.since z234.by_) (Told.mk 0 0 0 []) (Told.mk z449.known z449.cents z449.since z449.by_) (Told.mk 0 0 0 []) (Told.mk 0 0 0 []) (Told.mk 0 0 0 []) (Span.mk 100 130) 1)) fun z510 => cond z510 (cond (decide (z184 = 0)) (cond (decide (z182 = 2)) (cond (decide (z183 = 6)) (cond (decide (z202 = 0)) (Option.bind (P.ref03_SameClashes z201 ([(Clash.mk 4 45 ([7, 8, 9] : List Int))] : List Clash)) fun z550 => cond z550 (cond (decide (z220 = 0)) (cond (decide ((z219.length : Int) = 3)) (Option.bind (ixo z219 1) fun y559 => Option.bind (P.law03_rep 2 70 20 3 15 520 0) fun z573 => some (decide (y559 = z573))) (some false)) (some false)) (some false)) (some false)) (some false)) (some false)) (some false)) (some false)) (some false)) (some false)) (some false)) (some false)) (some false)) fun x627 => some x627
theorem C_law03_alive {M : List Nat} {w : World} (hM : MLt M w) (hG : RdC M w 0 0 (glob0.map (Value.int .i64)))  {r0 : Bool} (h : P.law03_alive  = some r0) :
  Calls Tryd.prog 26 (List.toArray []) w fun e w' => e = .returned (Value.bool r0) ∧ Ext w w' := by
 have hI := Hp.start (Mu := []) hM
 refine calls_cw Tryd.func26 rfl Tryd.ntmps26 rfl ?_
 refine cw_seq (cw_regF (s_as rfl rfl (Reg.nil (cw_seq (cw_regF ?_)))))
 obtain ⟨z1, hz2, h⟩ := bnd h
 refine s_call rfl Tryd.call27 rfl ((C_law03_reports hI.mlt hz2).mono ?_)
 rintro _ w3 ⟨v5, rfl, hf6, e4⟩
 refine ⟨_, rfl, ?_⟩
 have hI7 := hI.addOwn e4 hf6
 have hf8 := hI7.freeze 0 rfl
 have hI9 := hI7.erase 0
 obtain ⟨⟨z10, z11⟩, hz12, h⟩ := bnd h
 refine s_call rfl Tryd.call20 rfl ?_
 refine (C_account_State hI9.mlt (hG.adv hI9.adv) hf8 (by decide) (by decide) (by decide) hz12).mono ?_
 rintro _ w13 ⟨v18, v23, v28, v33, v38, v43, rfl, r15, r16, r17, hf19, r20, r21, r22, hf24, r25, r26, r27, hf29, r30, r31, r32, hf34, r35, r36, r37, hf39, r40, r41, r42, hf44, r45, r46, r47, r48, e14⟩
 refine ⟨_, rfl, ?_⟩
 have hI49 := hI9.ext e14
 refine s_mv rfl rfl (s_xt rfl rfl rfl (s_xt rfl rfl rfl (y_al hI49 Tryd.zeroValue42 rfl rfl ?_)))
 intro b50 w51 hI52 x53
 refine y_st 0 hI52 rfl rfl rfl rfl Tryd.sizeOf42 rfl rfl (one1 rfl (one1 rfl (one1 rfl (one1 (RdS.oneC hf19) (one1 rfl (one1 rfl (one1 rfl (one1 (RdS.oneC hf24) (one1 rfl (one1 rfl (one1 rfl (one1 (RdS.oneC hf29) (one1 rfl (one1 rfl (one1 rfl (one1 (RdS.oneC hf34) (one1 rfl (one1 rfl (one1 rfl (one1 (RdS.oneC hf39) (one1 rfl (one1 rfl (one1 rfl (one1 (RdS.oneC hf44) (on3 rfl rfl rfl))))))))))))))))))))))))) ?_
 intro w54 hI55 x56
 have hC58 := hI55.freezeRow 0 rfl
 have hI57 := hI55.erase 0
 refine s_as rfl rfl (Reg.nil (cw_seq (cw_regF ?_)))
 obtain ⟨z59, hz60, h⟩ := bnd h
 refine s_call rfl Tryd.call27 rfl ((C_law03_reports hI57.mlt hz60).mono ?_)
 rintro _ w61 ⟨v63, rfl, hf64, e62⟩
 refine ⟨_, rfl, ?_⟩
 have hI65 := hI57.addOwn e62 hf64
 have hf66 := hI65.freeze 0 rfl
 have hI67 := hI65.erase 0
 obtain ⟨⟨z68, z69⟩, hz70, h⟩ := bnd h
 refine s_call rfl Tryd.call20 rfl ?_
 refine (C_account_State hI67.mlt (hG.adv hI67.adv) hf66 (by decide) (by decide) (by decide) hz70).mono ?_
 rintro _ w71 ⟨v76, v81, v86, v91, v96, v101, rfl, r73, r74, r75, hf77, r78, r79, r80, hf82, r83, r84, r85, hf87, r88, r89, r90, hf92, r93, r94, r95, hf97, r98, r99, r100, hf102, r103, r104, r105, r106, e72⟩
 refine ⟨_, rfl, ?_⟩
 have hI107 := hI67.ext e72
 refine s_mv rfl rfl (s_xt rfl rfl rfl (s_xt rfl rfl rfl (y_al hI107 Tryd.zeroValue42 rfl rfl ?_)))
 intro b108 w109 hI110 x111
 refine y_st 0 hI110 rfl rfl rfl rfl Tryd.sizeOf42 rfl rfl (one1 rfl (one1 rfl (one1 rfl (one1 (RdS.oneC hf77) (one1 rfl (one1 rfl (one1 rfl (one1 (RdS.oneC hf82) (one1 rfl (one1 rfl (one1 rfl (one1 (RdS.oneC hf87) (one1 rfl (one1 rfl (one1 rfl (one1 (RdS.oneC hf92) (one1 rfl (one1 rfl (one1 rfl (one1 (RdS.oneC hf97) (one1 rfl (one1 rfl (one1 rfl (one1 (RdS.oneC hf102) (on3 rfl rfl rfl))))))))))))))))))))))))) ?_
 intro w112 hI113 x114
 have hC116 := hI113.freezeRow 0 rfl
 have hI115 := hI113.erase 0
 refine s_as rfl rfl (Reg.nil (cw_seq (cw_regF ?_)))
 obtain ⟨z117, hz118, h⟩ := bnd h
 refine s_call rfl Tryd.call27 rfl ((C_law03_reports hI115.mlt hz118).mono ?_)
 rintro _ w119 ⟨v121, rfl, hf122, e120⟩
 refine ⟨_, rfl, ?_⟩
 have hI123 := hI115.addOwn e120 hf122
 have hf124 := hI123.freeze 0 rfl
 have hI125 := hI123.erase 0
 obtain ⟨⟨z126, z127⟩, hz128, h⟩ := bnd h
 refine s_call rfl Tryd.call20 rfl ?_
 refine (C_account_State hI125.mlt (hG.adv hI125.adv) hf124 (by decide) (by decide) (by decide) hz128).mono ?_
 rintro _ w129 ⟨v134, v139, v144, v149, v154, v159, rfl, r131, r132, r133, hf135, r136, r137, r138, hf140, r141, r142, r143, hf145, r146, r147, r148, hf150, r151, r152, r153, hf155, r156, r157, r158, hf160, r161, r162, r163, r164, e130⟩
 refine ⟨_, rfl, ?_⟩
 have hI165 := hI125.ext e130
 refine s_mv rfl rfl (s_xt rfl rfl rfl (s_xt rfl rfl rfl (y_al hI165 Tryd.zeroValue42 rfl rfl ?_)))
 intro b166 w167 hI168 x169
 refine y_st 0 hI168 rfl rfl rfl rfl Tryd.sizeOf42 rfl rfl (one1 rfl (one1 rfl (one1 rfl (one1 (RdS.oneC hf135) (one1 rfl (one1 rfl (one1 rfl (one1 (RdS.oneC hf140) (one1 rfl (one1 rfl (one1 rfl (one1 (RdS.oneC hf145) (one1 rfl (one1 rfl (one1 rfl (one1 (RdS.oneC hf150) (one1 rfl (one1 rfl (one1 rfl (one1 (RdS.oneC hf155) (one1 rfl (one1 rfl (one1 rfl (one1 (RdS.oneC hf160) (on3 rfl rfl rfl))))))))))))))))))))))))) ?_
 intro w170 hI171 x172
 have hC174 := hI171.freezeRow 0 rfl
 have hI173 := hI171.erase 0
 refine s_as rfl rfl (Reg.nil (cw_seq (cw_regF ?_)))
 obtain ⟨z175, hz176, h⟩ := bnd h
 refine s_call rfl Tryd.call27 rfl ((C_law03_reports hI173.mlt hz176).mono ?_)
 rintro _ w177 ⟨v179, rfl, hf180, e178⟩
 refine ⟨_, rfl, ?_⟩
 have hI181 := hI173.addOwn e178 hf180
 obtain ⟨⟨z182, z183, z184⟩, hz185, h⟩ := bnd h
 refine s_call rfl Tryd.call15 rfl ?_
 refine (C_account_Fate (hI181.sel [] rfl).mlt ((hG.adv hI181.adv).adv (Hp.selA (σ := [ownR [] ReportE 61 v179 z175]) [])) (hI181.lendRd [] 0 rfl rfl) (by decide) (by decide) hz185).mono ?_
 rintro _ w186 ⟨rfl, r188, r189, r190, e187⟩
 refine ⟨_, rfl, ?_⟩
 have hI191 := hI181.ext e187
 refine s_mv rfl rfl ?_
 iterate 3 refine s_xt rfl rfl rfl ?_
 iterate 3 refine s_as rfl rfl ?_
 refine Reg.nil (cw_seq (cw_regF ?_))
 obtain ⟨z192, hz193, h⟩ := bnd h
 refine s_call rfl Tryd.call27 rfl ((C_law03_reports hI191.mlt hz193).mono ?_)
 rintro _ w194 ⟨v196, rfl, hf197, e195⟩
 refine ⟨_, rfl, ?_⟩
 have hI198 := hI191.addOwn e195 hf197
 have hf199 := hI198.freeze 0 rfl
 have hI200 := hI198.erase 0
 obtain ⟨⟨z201, z202⟩, hz203, h⟩ := bnd h
 refine s_call rfl Tryd.call22 rfl ?_
 refine (C_account_Clashes hI200.mlt (hG.adv hI200.adv) hf199 (by decide) (by decide) hz203).mono ?_
 rintro _ w204 ⟨v206, rfl, hf207, r208, e205⟩
 refine ⟨_, rfl, ?_⟩
 have hI209 := hI200.addOwn e205 hf207
 refine s_mv rfl rfl (s_xt rfl rfl rfl (s_xt rfl rfl rfl (s_as rfl rfl (s_as rfl rfl (Reg.nil (cw_seq (cw_regF ?_)))))))
 obtain ⟨z210, hz211, h⟩ := bnd h
 refine s_call rfl Tryd.call27 rfl ((C_law03_reports hI209.mlt hz211).mono ?_)
 rintro _ w212 ⟨v214, rfl, hf215, e213⟩
 refine ⟨_, rfl, ?_⟩
 have hI216 := hI209.addOwn e213 hf215
 have hf217 := hI216.freeze 0 rfl
 have hI218 := hI216.erase 0
 obtain ⟨⟨z219, z220⟩, hz221, h⟩ := bnd h
 refine s_call rfl Tryd.call13 rfl ?_
 refine (C_account_Standing hI218.mlt (hG.adv hI218.adv) hf217 (by decide) hz221).mono ?_
 rintro _ w222 ⟨v224, rfl, hf225, r226, e223⟩
 refine ⟨_, rfl, ?_⟩
 have hI227 := hI218.addOwn e223 hf225
 refine s_mv rfl rfl (s_xt rfl rfl rfl (s_xt rfl rfl rfl (s_as rfl rfl (s_as rfl rfl (Reg.nil (cw_seq (cw_regF ?_)))))))
 refine y_bs (E := (intE .i64)) (xs := [1]) sl36 hI227 rfl rfl (Cls.cons rfl Cls.nil) (Chs.cons ⟨rfl, (by decide)⟩ Chs.nil) rfl rfl ?_
 intro v228 w229 hI230 x231
 have hf232 := hI230.freeze 0 rfl
 have hI233 := hI230.erase 0
 obtain ⟨z234, hz235, h⟩ := bnd h
 refine s_call rfl Tryd.call28 rfl ?_
 refine (C_law03_told hI233.mlt (by decide) (by decide) (by decide) hf232 hz235).mono ?_
 rintro _ w236 ⟨v241, rfl, r238, r239, r240, hf242, e237⟩
 refine ⟨_, rfl, ?_⟩
 have hI243 := hI233.ext e237
 refine y_al hI243 Tryd.zeroValue38 rfl rfl ?_
 intro b244 w245 hI246 x247
 refine y_st 0 hI246 rfl rfl rfl rfl Tryd.sizeOf38 rfl rfl (one1 rfl (one1 rfl (one1 rfl (one1 (RdS.oneC hf242) one0)))) ?_
 intro w248 hI249 x250
 have hC252 := hI249.freezeRow 0 rfl
 have hI251 := hI249.erase 0
 refine Reg.nil ?_
 obtain ⟨j253, h254, h⟩ := bnd h
 refine cw_sub (L := [(1, _), (2, _), (3, _), (4, _), (5, _), (6, _), (7, _), (8, _), (9, _), (10, _), (11, _), (12, _), (13, _), (14, _)]) (Sub.cons rfl (Sub.cons rfl (sb12 rfl rfl rfl rfl rfl rfl rfl rfl rfl rfl rfl rfl))) (cw_seqD 14 (ι := Bool) (fun x255 => [(0, Value.bool x255)]) (fun x255 => fun w256 => Hp w [] M [ownR [] ReportE 61 v224 z219, ownR [] ClashE 55 v206 z201, ownR [] ReportE 61 v179 z175] w256 ∧ Adv (mm [ownR [] ReportE 61 v224 z219, ownR [] ClashE 55 v206 z201, ownR [] ReportE 61 v179 z175] M) (mm [ownR [] ReportE 61 v224 z219, ownR [] ClashE 55 v206 z201, ownR [] ReportE 61 v179 z175] M) w248 w256 ∧ x255 = j253) ?_ ?_)
 ·refine cw_regD [0, 1, 2, 3, 4, 5, 6, 7, 8, 9, 10, 11, 12, 13, 14, 15, 16, 17, 18, 19, 20, 21, 22, 23, 24, 25, 26, 27, 28, 29, 30, 31, 32, 33, 34, 35, 36, 37, 38, 39, 40, 41, 42, 43, 44, 45, 46, 47, 48, 49, 50, 51, 52, 53, 54, 55, 56, 57, 58, 59, 60, 61, 62, 63, 64, 65, 66, 67, 68, 69, 70, 71, 72, 73, 74, 75, 76] [] fol (by kernel_rfl) rfl rfl ?_
  refine s_mv rfl rfl (s_eql rfl rfl rfl (s_mv rfl rfl (Reg.gsplit (t := 50) rfl (fun hg259 => ?_) (fun hg259 => ?_))))
  ·replace h254 := cdT hg259 h254
   refine Reg.take rfl rfl (s_lda rfl (hC58.adv ((hI57.addOwnA e62 hf64).trans ((hI65.eraseH 0).trans ((Adv.of_ext e72).trans (x111.trans (x114.trans ((hI113.eraseH 0).trans ((hI115.addOwnA e120 hf122).trans ((hI123.eraseH 0).trans ((Adv.of_ext e130).trans (x169.trans (x172.trans ((hI171.eraseH 0).trans ((hI173.addOwnA e178 hf180).trans ((Adv.of_ext e187).trans ((hI191.addOwnA e195 hf197).trans ((hI198.eraseH 0).trans ((hI200.addOwnA e205 hf207).trans ((hI209.addOwnA e213 hf215).trans ((hI216.eraseH 0).trans ((hI218.addOwnA e223 hf225).trans (x231.trans ((hI230.eraseH 0).trans ((Adv.of_ext e237).trans (x247.trans (x250.trans (hI249.eraseH 0))))))))))))))))))))))))))).cells Tryd.isAgg42 rfl Tryd.sizeOf42 rfl (Reg.take rfl rfl (s_lda rfl hC252.cells Tryd.isAgg38 rfl Tryd.sizeOf38 rfl (Reg.take rfl rfl (Reg.rel (.p fun v w' => RdS (intE .i64) (mm [ownR [] ReportE 61 v224 z219, ownR [] ClashE 55 v206 z201, ownR [] ReportE 61 v179 z175] M) w' v ([2, 3] : List Int)) [] rfl rfl rfl RSub.nil rfl (nodupB_spec rfl) ?_ (fun v w1 w2 e h => h.adv (Adv.of_ext e)) ?_)))))
   ·intro w260 e261; simp only [relOut]; refine s_bs (E := (intE .i64)) (M := mm [ownR [] ReportE 61 v224 z219, ownR [] ClashE 55 v206 z201, ownR [] ReportE 61 v179 z175] M) (Bb := 0) (xs := ([2, 3] : List Int)) sl36 rfl rfl (Cls.cons rfl (Cls.cons rfl Cls.nil)) (Chs.cons ⟨rfl, (by decide)⟩ (Chs.cons ⟨rfl, (by decide)⟩ Chs.nil)) (hI251.mlt.ext e261) (Nat.zero_le _) rfl rfl ?_; intro a262 w263 x264 _ h265 _; exact Reg.nil ⟨rfl, x264, _, rfl, h265, trivial⟩
   refine Reg.take rfl rfl ?_
   obtain ⟨z269, hz269, h254⟩ := bnd h254
   refine Reg.rel (.p fun v w' => ∃ cs : List Value, v = Value.agg (List.toArray cs) ∧ ToldE.R (mm [ownR [] ReportE 61 v224 z219, ownR [] ClashE 55 v206 z201, ownR [] ReportE 61 v179 z175] M) w' cs z269) [(53, _)] rfl rfl rfl (RSub.cons rfl rfl RSub.nil) rfl (nodupB_spec rfl) ?_ (fun v w1 w2 e h => ⟨h.choose, h.choose_spec.1, ToldE.kp e.kp h.choose_spec.2⟩) ?_
   ·intro w270 e271; simp only [relOut]; intro u266 k267 s268; refine s_call rfl Tryd.call28 rfl ?_; refine (C_law03_told (hI251.mlt.ext e271) (by decide) (by decide) (by decide) k267 hz269).mono ?_; rintro _ w272 ⟨v278, rfl, r275, r276, r277, hf279, x273⟩; refine ⟨_, rfl, ?_⟩; exact Reg.nil ⟨rfl, x273, _, rfl, ⟨_, rfl, (ToldE_R (x := z269)).2 ⟨_, rfl, r275, r276, r277, hf279⟩⟩, trivial⟩
   refine Reg.take rfl rfl (Reg.rel (.p fun v w' => ∃ cs : List Value, v = Value.agg (List.toArray cs) ∧ StateE.R (mm [ownR [] ReportE 61 v224 z219, ownR [] ClashE 55 v206 z201, ownR [] ReportE 61 v179 z175] M) w' cs (State.mk (Told.mk z234.known z234.cents z234.since z234.by_) (Told.mk 0 0 0 []) (Told.mk z269.known z269.cents z269.since z269.by_) (Told.mk 0 0 0 []) (Told.mk 0 0 0 []) (Told.mk 0 0 0 []) (Span.mk 0 0) 1)) [(54, _)] rfl rfl rfl (RSub.cons rfl rfl RSub.nil) rfl (nodupB_spec rfl) ?_ (fun v w1 w2 e h => ⟨h.choose, h.choose_spec.1, StateE.kp e.kp h.choose_spec.2⟩) ?_)
   ·intro w290 e291; simp only [relOut]; intro u280 k281 s282; obtain ⟨cs283, rfl, hR284⟩ := k281; obtain ⟨v288, rfl, r285, r286, r287, hf289⟩ := ToldE_R.1 hR284; refine s_bd [(0, 4), (4, 4), (8, 4), (12, 4), (16, 4), (20, 4), (24, 2), (26, 1)] Tryd.zeroValue42 rfl Tryd.underlying42 (fun _ => by simp [Tryd.sizeOf38, Tryd.sizeOf40, Tryd.sizeOf5]) rfl (Cls.cons rfl (Cls.cons rfl (Cls.cons rfl (Cls.nil)))) rfl rfl ?_; exact Reg.nil ⟨rfl, Kp.refl _ _, _, rfl, ⟨_, rfl, ((StateE_R (x := (State.mk (Told.mk z234.known z234.cents z234.since z234.by_) (Told.mk 0 0 0 []) (Told.mk z269.known z269.cents z269.since z269.by_) (Told.mk 0 0 0 []) (Told.mk 0 0 0 []) (Told.mk 0 0 0 []) (Span.mk 0 0) 1))).2 ⟨_, _, _, _, _, _, rfl, r238, r239, r240, ((hf242.adv (x247.trans (x250.trans (hI249.eraseH 0)))).adv (Adv.of_ext e291)), (show InK .u8 0 by decide), (show InK .i64 0 by decide), (show InK .i64 0 by decide), (RdS.nil _ _ _), r285, r286, r287, hf289, (show InK .u8 0 by decide), (show InK .i64 0 by decide), (show InK .i64 0 by decide), (RdS.nil _ _ _), (show InK .u8 0 by decide), (show InK .i64 0 by decide), (show InK .i64 0 by decide), (RdS.nil _ _ _), (show InK .u8 0 by decide), (show InK .i64 0 by decide), (show InK .i64 0 by decide), (RdS.nil _ _ _), (show InK .i64 0 by decide), (show InK .i64 0 by decide), (show InK .u8 1 by decide)⟩)⟩, trivial⟩
   refine Reg.take rfl rfl ?_
   obtain ⟨z330, hz330, h254⟩ := bnd h254
   refine Reg.relC (.bool z330) [(55, _)] rfl rfl (RSub.cons rfl rfl RSub.nil) rfl (nodupB_spec rfl) ?_ ?_
   ·intro w331 e332; simp only [relOut]; intro u292 k293 s294; obtain ⟨cs295, rfl, hR296⟩ := k293; obtain ⟨v300, v305, v310, v315, v320, v325, rfl, r297, r298, r299, hf301, r302, r303, r304, hf306, r307, r308, r309, hf311, r312, r313, r314, hf316, r317, r318, r319, hf321, r322, r323, r324, hf326, r327, r328, r329⟩ := StateE_R.1 hR296; refine s_call rfl Tryd.call24 rfl ?_; refine (C_ref03_SameState (hI251.mlt.ext e332) r15 r16 r17 ((hf19.adv (x53.trans (x56.trans ((hI55.eraseH 0).trans ((hI57.addOwnA e62 hf64).trans ((hI65.eraseH 0).trans ((Adv.of_ext e72).trans (x111.trans (x114.trans ((hI113.eraseH 0).trans ((hI115.addOwnA e120 hf122).trans ((hI123.eraseH 0).trans ((Adv.of_ext e130).trans (x169.trans (x172.trans ((hI171.eraseH 0).trans ((hI173.addOwnA e178 hf180).trans ((Adv.of_ext e187).trans ((hI191.addOwnA e195 hf197).trans ((hI198.eraseH 0).trans ((hI200.addOwnA e205 hf207).trans ((hI209.addOwnA e213 hf215).trans ((hI216.eraseH 0).trans ((hI218.addOwnA e223 hf225).trans (x231.trans ((hI230.eraseH 0).trans ((Adv.of_ext e237).trans (x247.trans (x250.trans (hI249.eraseH 0)))))))))))))))))))))))))))))).adv (Adv.of_ext e332)) r20 r21 r22 ((hf24.adv (x53.trans (x56.trans ((hI55.eraseH 0).trans ((hI57.addOwnA e62 hf64).trans ((hI65.eraseH 0).trans ((Adv.of_ext e72).trans (x111.trans (x114.trans ((hI113.eraseH 0).trans ((hI115.addOwnA e120 hf122).trans ((hI123.eraseH 0).trans ((Adv.of_ext e130).trans (x169.trans (x172.trans ((hI171.eraseH 0).trans ((hI173.addOwnA e178 hf180).trans ((Adv.of_ext e187).trans ((hI191.addOwnA e195 hf197).trans ((hI198.eraseH 0).trans ((hI200.addOwnA e205 hf207).trans ((hI209.addOwnA e213 hf215).trans ((hI216.eraseH 0).trans ((hI218.addOwnA e223 hf225).trans (x231.trans ((hI230.eraseH 0).trans ((Adv.of_ext e237).trans (x247.trans (x250.trans (hI249.eraseH 0)))))))))))))))))))))))))))))).adv (Adv.of_ext e332)) r25 r26 r27 ((hf29.adv (x53.trans (x56.trans ((hI55.eraseH 0).trans ((hI57.addOwnA e62 hf64).trans ((hI65.eraseH 0).trans ((Adv.of_ext e72).trans (x111.trans (x114.trans ((hI113.eraseH 0).trans ((hI115.addOwnA e120 hf122).trans ((hI123.eraseH 0).trans ((Adv.of_ext e130).trans (x169.trans (x172.trans ((hI171.eraseH 0).trans ((hI173.addOwnA e178 hf180).trans ((Adv.of_ext e187).trans ((hI191.addOwnA e195 hf197).trans ((hI198.eraseH 0).trans ((hI200.addOwnA e205 hf207).trans ((hI209.addOwnA e213 hf215).trans ((hI216.eraseH 0).trans ((hI218.addOwnA e223 hf225).trans (x231.trans ((hI230.eraseH 0).trans ((Adv.of_ext e237).trans (x247.trans (x250.trans (hI249.eraseH 0)))))))))))))))))))))))))))))).adv (Adv.of_ext e332)) r30 r31 r32 ((hf34.adv (x53.trans (x56.trans ((hI55.eraseH 0).trans ((hI57.addOwnA e62 hf64).trans ((hI65.eraseH 0).trans ((Adv.of_ext e72).trans (x111.trans (x114.trans ((hI113.eraseH 0).trans ((hI115.addOwnA e120 hf122).trans ((hI123.eraseH 0).trans ((Adv.of_ext e130).trans (x169.trans (x172.trans ((hI171.eraseH 0).trans ((hI173.addOwnA e178 hf180).trans ((Adv.of_ext e187).trans ((hI191.addOwnA e195 hf197).trans ((hI198.eraseH 0).trans ((hI200.addOwnA e205 hf207).trans ((hI209.addOwnA e213 hf215).trans ((hI216.eraseH 0).trans ((hI218.addOwnA e223 hf225).trans (x231.trans ((hI230.eraseH 0).trans ((Adv.of_ext e237).trans (x247.trans (x250.trans (hI249.eraseH 0)))))))))))))))))))))))))))))).adv (Adv.of_ext e332)) r35 r36 r37 ((hf39.adv (x53.trans (x56.trans ((hI55.eraseH 0).trans ((hI57.addOwnA e62 hf64).trans ((hI65.eraseH 0).trans ((Adv.of_ext e72).trans (x111.trans (x114.trans ((hI113.eraseH 0).trans ((hI115.addOwnA e120 hf122).trans ((hI123.eraseH 0).trans ((Adv.of_ext e130).trans (x169.trans (x172.trans ((hI171.eraseH 0).trans ((hI173.addOwnA e178 hf180).trans ((Adv.of_ext e187).trans ((hI191.addOwnA e195 hf197).trans ((hI198.eraseH 0).trans ((hI200.addOwnA e205 hf207).trans ((hI209.addOwnA e213 hf215).trans ((hI216.eraseH 0).trans ((hI218.addOwnA e223 hf225).trans (x231.trans ((hI230.eraseH 0).trans ((Adv.of_ext e237).trans (x247.trans (x250.trans (hI249.eraseH 0)))))))))))))))))))))))))))))).adv (Adv.of_ext e332)) r40 r41 r42 ((hf44.adv (x53.trans (x56.trans ((hI55.eraseH 0).trans ((hI57.addOwnA e62 hf64).trans ((hI65.eraseH 0).trans ((Adv.of_ext e72).trans (x111.trans (x114.trans ((hI113.eraseH 0).trans ((hI115.addOwnA e120 hf122).trans ((hI123.eraseH 0).trans ((Adv.of_ext e130).trans (x169.trans (x172.trans ((hI171.eraseH 0).trans ((hI173.addOwnA e178 hf180).trans ((Adv.of_ext e187).trans ((hI191.addOwnA e195 hf197).trans ((hI198.eraseH 0).trans ((hI200.addOwnA e205 hf207).trans ((hI209.addOwnA e213 hf215).trans ((hI216.eraseH 0).trans ((hI218.addOwnA e223 hf225).trans (x231.trans ((hI230.eraseH 0).trans ((Adv.of_ext e237).trans (x247.trans (x250.trans (hI249.eraseH 0)))))))))))))))))))))))))))))).adv (Adv.of_ext e332)) r45 r46 r47 r297 r298 r299 hf301 r302 r303 r304 hf306 r307 r308 r309 hf311 r312 r313 r314 hf316 r317 r318 r319 hf321 r322 r323 r324 hf326 r327 r328 r329 hz330).mono ?_; rintro _ w333 ⟨rfl, x334⟩; refine ⟨_, rfl, ?_⟩; exact Reg.nil ⟨rfl, x334, _, rfl, rfl, trivial⟩
   refine s_pkT rfl rfl rfl (s_mv rfl rfl (Reg.gsplit (t := 58) rfl (fun hg336 => ?_) (fun hg336 => ?_)))
   ·replace h254 := cdT hg336 h254
    refine Reg.take rfl rfl (s_mv rfl rfl (Reg.take rfl rfl (s_eql rfl rfl rfl (s_pkT rfl rfl rfl (s_mv rfl rfl (Reg.gsplit (t := 62) rfl (fun hg337 => ?_) (fun hg337 => ?_)))))))
    ·replace h254 := cdT hg337 h254
     refine Reg.take rfl rfl (s_lda rfl (hC116.adv ((hI115.addOwnA e120 hf122).trans ((hI123.eraseH 0).trans ((Adv.of_ext e130).trans (x169.trans (x172.trans ((hI171.eraseH 0).trans ((hI173.addOwnA e178 hf180).trans ((Adv.of_ext e187).trans ((hI191.addOwnA e195 hf197).trans ((hI198.eraseH 0).trans ((hI200.addOwnA e205 hf207).trans ((hI209.addOwnA e213 hf215).trans ((hI216.eraseH 0).trans ((hI218.addOwnA e223 hf225).trans (x231.trans ((hI230.eraseH 0).trans ((Adv.of_ext e237).trans (x247.trans (x250.trans (hI249.eraseH 0))))))))))))))))))))).cells Tryd.isAgg42 rfl Tryd.sizeOf42 rfl (Reg.take rfl rfl (s_lda rfl hC252.cells Tryd.isAgg38 rfl Tryd.sizeOf38 rfl (Reg.take rfl rfl (Reg.rel (.p fun v w' => RdS (intE .i64) (mm [ownR [] ReportE 61 v224 z219, ownR [] ClashE 55 v206 z201, ownR [] ReportE 61 v179 z175] M) w' v ([2, 3] : List Int)) [] rfl rfl rfl RSub.nil rfl (nodupB_spec rfl) ?_ (fun v w1 w2 e h => h.adv (Adv.of_ext e)) ?_)))))
     ·intro w338 e339; simp only [relOut]; refine s_bs (E := (intE .i64)) (M := mm [ownR [] ReportE 61 v224 z219, ownR [] ClashE 55 v206 z201, ownR [] ReportE 61 v179 z175] M) (Bb := 0) (xs := ([2, 3] : List Int)) sl36 rfl rfl (Cls.cons rfl (Cls.cons rfl Cls.nil)) (Chs.cons ⟨rfl, (by decide)⟩ (Chs.cons ⟨rfl, (by decide)⟩ Chs.nil)) (hI251.mlt.ext e339) (Nat.zero_le _) rfl rfl ?_; intro a340 w341 x342 _ h343 _; exact Reg.nil ⟨rfl, x342, _, rfl, h343, trivial⟩
     refine Reg.take rfl rfl ?_
     obtain ⟨z347, hz347, h254⟩ := bnd h254
     refine Reg.rel (.p fun v w' => ∃ cs : List Value, v = Value.agg (List.toArray cs) ∧ ToldE.R (mm [ownR [] ReportE 61 v224 z219, ownR [] ClashE 55 v206 z201, ownR [] ReportE 61 v179 z175] M) w' cs z347) [(65, _)] rfl rfl rfl (RSub.cons rfl rfl RSub.nil) rfl (nodupB_spec rfl) ?_ (fun v w1 w2 e h => ⟨h.choose, h.choose_spec.1, ToldE.kp e.kp h.choose_spec.2⟩) ?_
     ·intro w348 e349; simp only [relOut]; intro u344 k345 s346; refine s_call rfl Tryd.call28 rfl ?_; refine (C_law03_told (hI251.mlt.ext e349) (by decide) (by decide) (by decide) k345 hz347).mono ?_; rintro _ w350 ⟨v356, rfl, r353, r354, r355, hf357, x351⟩; refine ⟨_, rfl, ?_⟩; exact Reg.nil ⟨rfl, x351, _, rfl, ⟨_, rfl, (ToldE_R (x := z347)).2 ⟨_, rfl, r353, r354, r355, hf357⟩⟩, trivial⟩
     refine Reg.take rfl rfl (Reg.rel (.p fun v w' => RdS (intE .i64) (mm [ownR [] ReportE 61 v224 z219, ownR [] ClashE 55 v206 z201, ownR [] ReportE 61 v179 z175] M) w' v ([4] : List Int)) [] rfl rfl rfl RSub.nil rfl (nodupB_spec rfl) ?_ (fun v w1 w2 e h => h.adv (Adv.of_ext e)) ?_)
     ·intro w358 e359; simp only [relOut]; refine s_bs (E := (intE .i64)) (M := mm [ownR [] ReportE 61 v224 z219, ownR [] ClashE 55 v206 z201, ownR [] ReportE 61 v179 z175] M) (Bb := 0) (xs := ([4] : List Int)) sl36 rfl rfl (Cls.cons rfl Cls.nil) (Chs.cons ⟨rfl, (by decide)⟩ Chs.nil) (hI251.mlt.ext e359) (Nat.zero_le _) rfl rfl ?_; intro a360 w361 x362 _ h363 _; exact Reg.nil ⟨rfl, x362, _, rfl, h363, trivial⟩
     refine Reg.take rfl rfl ?_
     obtain ⟨z367, hz367, h254⟩ := bnd h254
     refine Reg.rel (.p fun v w' => ∃ cs : List Value, v = Value.agg (List.toArray cs) ∧ ToldE.R (mm [ownR [] ReportE 61 v224 z219, ownR [] ClashE 55 v206 z201, ownR [] ReportE 61 v179 z175] M) w' cs z367) [(67, _)] rfl rfl rfl (RSub.cons rfl rfl RSub.nil) rfl (nodupB_spec rfl) ?_ (fun v w1 w2 e h => ⟨h.choose, h.choose_spec.1, ToldE.kp e.kp h.choose_spec.2⟩) ?_
     ·intro w368 e369; simp only [relOut]; intro u364 k365 s366; refine s_call rfl Tryd.call28 rfl ?_; refine (C_law03_told (hI251.mlt.ext e369) (by decide) (by decide) (by decide) k365 hz367).mono ?_; rintro _ w370 ⟨v376, rfl, r373, r374, r375, hf377, x371⟩; refine ⟨_, rfl, ?_⟩; exact Reg.nil ⟨rfl, x371, _, rfl, ⟨_, rfl, (ToldE_R (x := z367)).2 ⟨_, rfl, r373, r374, r375, hf377⟩⟩, trivial⟩
     refine Reg.take rfl rfl (Reg.rel (.p fun v w' => ∃ cs : List Value, v = Value.agg (List.toArray cs) ∧ StateE.R (mm [ownR [] ReportE 61 v224 z219, ownR [] ClashE 55 v206 z201, ownR [] ReportE 61 v179 z175] M) w' cs (State.mk (Told.mk z234.known z234.cents z234.since z234.by_) (Told.mk 0 0 0 []) (Told.mk z347.known z347.cents z347.since z347.by_) (Told.mk z367.known z367.cents z367.since z367.by_) (Told.mk 0 0 0 []) (Told.mk 0 0 0 []) (Span.mk 0 0) 2)) [(66, _), (68, _)] rfl rfl rfl (RSub.cons rfl rfl (RSub.cons rfl rfl RSub.nil)) rfl (nodupB_spec rfl) ?_ (fun v w1 w2 e h => ⟨h.choose, h.choose_spec.1, StateE.kp e.kp h.choose_spec.2⟩) ?_)
     ·intro w398 e399; simp only [relOut]; intro u378 k379 s380; obtain ⟨cs381, rfl, hR382⟩ := k379; obtain ⟨v386, rfl, r383, r384, r385, hf387⟩ := ToldE_R.1 hR382; intro u388 k389 s390; obtain ⟨cs391, rfl, hR392⟩ := k389; obtain ⟨v396, rfl, r393, r394, r395, hf397⟩ := ToldE_R.1 hR392; refine s_bd [(0, 4), (4, 4), (8, 4), (12, 4), (16, 4), (20, 4), (24, 2), (26, 1)] Tryd.zeroValue42 rfl Tryd.underlying42 (fun _ => by simp [Tryd.sizeOf38, Tryd.sizeOf40, Tryd.sizeOf5]) rfl (Cls.cons rfl (Cls.cons rfl (Cls.cons rfl (Cls.cons rfl (Cls.nil))))) rfl rfl ?_; exact Reg.nil ⟨rfl, Kp.refl _ _, _, rfl, ⟨_, rfl, ((StateE_R (x := (State.mk (Told.mk z234.known z234.cents z234.since z234.by_) (Told.mk 0 0 0 []) (Told.mk z347.known z347.cents z347.since z347.by_) (Told.mk z367.known z367.cents z367.since z367.by_) (Told.mk 0 0 0 []) (Told.mk 0 0 0 []) (Span.mk 0 0) 2))).2 ⟨_, _, _, _, _, _, rfl, r238, r239, r240, ((hf242.adv (x247.trans (x250.trans (hI249.eraseH 0)))).adv (Adv.of_ext e399)), (show InK .u8 0 by decide), (show InK .i64 0 by decide), (show InK .i64 0 by decide), (RdS.nil _ _ _), r383, r384, r385, hf387, r393, r394, r395, hf397, (show InK .u8 0 by decide), (show InK .i64 0 by decide), (show InK .i64 0 by decide), (RdS.nil _ _ _), (show InK .u8 0 by decide), (show InK .i64 0 by decide), (show InK .i64 0 by decide), (RdS.nil _ _ _), (show InK .i64 0 by decide), (show InK .i64 0 by decide), (show InK .u8 2 by decide)⟩)⟩, trivial⟩
     refine Reg.take rfl rfl ?_
     obtain ⟨z438, hz438, h254⟩ := bnd h254
     refine Reg.relC (.bool z438) [(69, _)] rfl rfl (RSub.cons rfl rfl RSub.nil) rfl (nodupB_spec rfl) ?_ ?_
     ·intro w439 e440; simp only [relOut]; intro u400 k401 s402; obtain ⟨cs403, rfl, hR404⟩ := k401; obtain ⟨v408, v413, v418, v423, v428, v433, rfl, r405, r406, r407, hf409, r410, r411, r412, hf414, r415, r416, r417, hf419, r420, r421, r422, hf424, r425, r426, r427, hf429, r430, r431, r432, hf434, r435, r436, r437⟩ := StateE_R.1 hR404; refine s_call rfl Tryd.call24 rfl ?_; refine (C_ref03_SameState (hI251.mlt.ext e440) r73 r74 r75 ((hf77.adv (x111.trans (x114.trans ((hI113.eraseH 0).trans ((hI115.addOwnA e120 hf122).trans ((hI123.eraseH 0).trans ((Adv.of_ext e130).trans (x169.trans (x172.trans ((hI171.eraseH 0).trans ((hI173.addOwnA e178 hf180).trans ((Adv.of_ext e187).trans ((hI191.addOwnA e195 hf197).trans ((hI198.eraseH 0).trans ((hI200.addOwnA e205 hf207).trans ((hI209.addOwnA e213 hf215).trans ((hI216.eraseH 0).trans ((hI218.addOwnA e223 hf225).trans (x231.trans ((hI230.eraseH 0).trans ((Adv.of_ext e237).trans (x247.trans (x250.trans (hI249.eraseH 0)))))))))))))))))))))))).adv (Adv.of_ext e440)) r78 r79 r80 ((hf82.adv (x111.trans (x114.trans ((hI113.eraseH 0).trans ((hI115.addOwnA e120 hf122).trans ((hI123.eraseH 0).trans ((Adv.of_ext e130).trans (x169.trans (x172.trans ((hI171.eraseH 0).trans ((hI173.addOwnA e178 hf180).trans ((Adv.of_ext e187).trans ((hI191.addOwnA e195 hf197).trans ((hI198.eraseH 0).trans ((hI200.addOwnA e205 hf207).trans ((hI209.addOwnA e213 hf215).trans ((hI216.eraseH 0).trans ((hI218.addOwnA e223 hf225).trans (x231.trans ((hI230.eraseH 0).trans ((Adv.of_ext e237).trans (x247.trans (x250.trans (hI249.eraseH 0)))))))))))))))))))))))).adv (Adv.of_ext e440)) r83 r84 r85 ((hf87.adv (x111.trans (x114.trans ((hI113.eraseH 0).trans ((hI115.addOwnA e120 hf122).trans ((hI123.eraseH 0).trans ((Adv.of_ext e130).trans (x169.trans (x172.trans ((hI171.eraseH 0).trans ((hI173.addOwnA e178 hf180).trans ((Adv.of_ext e187).trans ((hI191.addOwnA e195 hf197).trans ((hI198.eraseH 0).trans ((hI200.addOwnA e205 hf207).trans ((hI209.addOwnA e213 hf215).trans ((hI216.eraseH 0).trans ((hI218.addOwnA e223 hf225).trans (x231.trans ((hI230.eraseH 0).trans ((Adv.of_ext e237).trans (x247.trans (x250.trans (hI249.eraseH 0)))))))))))))))))))))))).adv (Adv.of_ext e440)) r88 r89 r90 ((hf92.adv (x111.trans (x114.trans ((hI113.eraseH 0).trans ((hI115.addOwnA e120 hf122).trans ((hI123.eraseH 0).trans ((Adv.of_ext e130).trans (x169.trans (x172.trans ((hI171.eraseH 0).trans ((hI173.addOwnA e178 hf180).trans ((Adv.of_ext e187).trans ((hI191.addOwnA e195 hf197).trans ((hI198.eraseH 0).trans ((hI200.addOwnA e205 hf207).trans ((hI209.addOwnA e213 hf215).trans ((hI216.eraseH 0).trans ((hI218.addOwnA e223 hf225).trans (x231.trans ((hI230.eraseH 0).trans ((Adv.of_ext e237).trans (x247.trans (x250.trans (hI249.eraseH 0)))))))))))))))))))))))).adv (Adv.of_ext e440)) r93 r94 r95 ((hf97.adv (x111.trans (x114.trans ((hI113.eraseH 0).trans ((hI115.addOwnA e120 hf122).trans ((hI123.eraseH 0).trans ((Adv.of_ext e130).trans (x169.trans (x172.trans ((hI171.eraseH 0).trans ((hI173.addOwnA e178 hf180).trans ((Adv.of_ext e187).trans ((hI191.addOwnA e195 hf197).trans ((hI198.eraseH 0).trans ((hI200.addOwnA e205 hf207).trans ((hI209.addOwnA e213 hf215).trans ((hI216.eraseH 0).trans ((hI218.addOwnA e223 hf225).trans (x231.trans ((hI230.eraseH 0).trans ((Adv.of_ext e237).trans (x247.trans (x250.trans (hI249.eraseH 0)))))))))))))))))))))))).adv (Adv.of_ext e440)) r98 r99 r100 ((hf102.adv (x111.trans (x114.trans ((hI113.eraseH 0).trans ((hI115.addOwnA e120 hf122).trans ((hI123.eraseH 0).trans ((Adv.of_ext e130).trans (x169.trans (x172.trans ((hI171.eraseH 0).trans ((hI173.addOwnA e178 hf180).trans ((Adv.of_ext e187).trans ((hI191.addOwnA e195 hf197).trans ((hI198.eraseH 0).trans ((hI200.addOwnA e205 hf207).trans ((hI209.addOwnA e213 hf215).trans ((hI216.eraseH 0).trans ((hI218.addOwnA e223 hf225).trans (x231.trans ((hI230.eraseH 0).trans ((Adv.of_ext e237).trans (x247.trans (x250.trans (hI249.eraseH 0)))))))))))))))))))))))).adv (Adv.of_ext e440)) r103 r104 r105 r405 r406 r407 hf409 r410 r411 r412 hf414 r415 r416 r417 hf419 r420 r421 r422 hf424 r425 r426 r427 hf429 r430 r431 r432 hf434 r435 r436 r437 hz438).mono ?_; rintro _ w441 ⟨rfl, x442⟩; refine ⟨_, rfl, ?_⟩; exact Reg.nil ⟨rfl, x442, _, rfl, rfl, trivial⟩
     refine s_pkT rfl rfl rfl (s_mv rfl rfl (Reg.gsplit (t := 72) rfl (fun hg444 => ?_) (fun hg444 => ?_)))
     ·replace h254 := cdT hg444 h254
      refine Reg.take rfl rfl (s_mv rfl rfl (Reg.take rfl rfl (s_eql rfl rfl rfl (s_pkT rfl rfl rfl (s_mv rfl rfl (Reg.gsplit (t := 76) rfl (fun hg445 => ?_) (fun hg445 => ?_)))))))
      ·replace h254 := cdT hg445 h254
       refine Reg.take rfl rfl (s_lda rfl (hC174.adv ((hI173.addOwnA e178 hf180).trans ((Adv.of_ext e187).trans ((hI191.addOwnA e195 hf197).trans ((hI198.eraseH 0).trans ((hI200.addOwnA e205 hf207).trans ((hI209.addOwnA e213 hf215).trans ((hI216.eraseH 0).trans ((hI218.addOwnA e223 hf225).trans (x231.trans ((hI230.eraseH 0).trans ((Adv.of_ext e237).trans (x247.trans (x250.trans (hI249.eraseH 0))))))))))))))).cells Tryd.isAgg42 rfl Tryd.sizeOf42 rfl (Reg.take rfl rfl (s_lda rfl hC252.cells Tryd.isAgg38 rfl Tryd.sizeOf38 rfl (Reg.take rfl rfl (Reg.rel (.p fun v w' => RdS (intE .i64) (mm [ownR [] ReportE 61 v224 z219, ownR [] ClashE 55 v206 z201, ownR [] ReportE 61 v179 z175] M) w' v ([2, 3] : List Int)) [] rfl rfl rfl RSub.nil rfl (nodupB_spec rfl) ?_ (fun v w1 w2 e h => h.adv (Adv.of_ext e)) ?_)))))
       ·intro w446 e447; simp only [relOut]; refine s_bs (E := (intE .i64)) (M := mm [ownR [] ReportE 61 v224 z219, ownR [] ClashE 55 v206 z201, ownR [] ReportE 61 v179 z175] M) (Bb := 0) (xs := ([2, 3] : List Int)) sl36 rfl rfl (Cls.cons rfl (Cls.cons rfl Cls.nil)) (Chs.cons ⟨rfl, (by decide)⟩ (Chs.cons ⟨rfl, (by decide)⟩ Chs.nil)) (hI251.mlt.ext e447) (Nat.zero_le _) rfl rfl ?_; intro a448 w449 x450 _ h451 _; exact Reg.nil ⟨rfl, x450, _, rfl, h451, trivial⟩
       refine Reg.take rfl rfl ?_
       obtain ⟨z455, hz455, h254⟩ := bnd h254
       refine Reg.rel (.p fun v w' => ∃ cs : List Value, v = Value.agg (List.toArray cs) ∧ ToldE.R (mm [ownR [] ReportE 61 v224 z219, ownR [] ClashE 55 v206 z201, ownR [] ReportE 61 v179 z175] M) w' cs z455) [(79, _)] rfl rfl rfl (RSub.cons rfl rfl RSub.nil) rfl (nodupB_spec rfl) ?_ (fun v w1 w2 e h => ⟨h.choose, h.choose_spec.1, ToldE.kp e.kp h.choose_spec.2⟩) ?_
       ·intro w456 e457; simp only [relOut]; intro u452 k453 s454; refine s_call rfl Tryd.call28 rfl ?_; refine (C_law03_told (hI251.mlt.ext e457) (by decide) (by decide) (by decide) k453 hz455).mono ?_; rintro _ w458 ⟨v464, rfl, r461, r462, r463, hf465, x459⟩; refine ⟨_, rfl, ?_⟩; exact Reg.nil ⟨rfl, x459, _, rfl, ⟨_, rfl, (ToldE_R (x := z455)).2 ⟨_, rfl, r461, r462, r463, hf465⟩⟩, trivial⟩
       refine Reg.take rfl rfl ?_
       refine s_bd [(0, 1), (1, 1)] Tryd.zeroValue40 rfl Tryd.underlying40 (fun _ => by simp [Tryd.sizeOf3]) rfl (Cls.cons rfl (Cls.cons rfl (Cls.nil))) rfl rfl ?_
       refine Reg.take rfl rfl (Reg.rel (.p fun v w' => ∃ cs : List Value, v = Value.agg (List.toArray cs) ∧ StateE.R (mm [ownR [] ReportE 61 v224 z219, ownR [] ClashE 55 v206 z201, ownR [] ReportE 61 v179 z175] M) w' cs (State.mk (Told.mk z234.known z234.cents z234.since z234.by_) (Told.mk 0 0 0 []) (Told.mk z455.known z455.cents z455.since z455.by_) (Told.mk 0 0 0 []) (Told.mk 0 0 0 []) (Told.mk 0 0 0 []) (Span.mk 100 130) 1)) [(80, _)] rfl rfl rfl (RSub.cons rfl rfl RSub.nil) rfl (nodupB_spec rfl) ?_ (fun v w1 w2 e h => ⟨h.choose, h.choose_spec.1, StateE.kp e.kp h.choose_spec.2⟩) ?_)
       ·intro w476 e477; simp only [relOut]; intro u466 k467 s468; obtain ⟨cs469, rfl, hR470⟩ := k467; obtain ⟨v474, rfl, r471, r472, r473, hf475⟩ := ToldE_R.1 hR470; refine s_bd [(0, 4), (4, 4), (8, 4), (12, 4), (16, 4), (20, 4), (24, 2), (26, 1)] Tryd.zeroValue42 rfl Tryd.underlying42 (fun _ => by simp [Tryd.sizeOf38, Tryd.sizeOf40, Tryd.sizeOf5]) rfl (Cls.cons rfl (Cls.cons rfl (Cls.cons rfl (Cls.cons rfl (Cls.nil))))) rfl rfl ?_; exact Reg.nil ⟨rfl, Kp.refl _ _, _, rfl, ⟨_, rfl, ((StateE_R (x := (State.mk (Told.mk z234.known z234.cents z234.since z234.by_) (Told.mk 0 0 0 []) (Told.mk z455.known z455.cents z455.since z455.by_) (Told.mk 0 0 0 []) (Told.mk 0 0 0 []) (Told.mk 0 0 0 []) (Span.mk 100 130) 1))).2 ⟨_, _, _, _, _, _, rfl, r238, r239, r240, ((hf242.adv (x247.trans (x250.trans (hI249.eraseH 0)))).adv (Adv.of_ext e477)), (show InK .u8 0 by decide), (show InK .i64 0 by decide), (show InK .i64 0 by decide), (RdS.nil _ _ _), r471, r472, r473, hf475, (show InK .u8 0 by decide), (show InK .i64 0 by decide), (show InK .i64 0 by decide), (RdS.nil _ _ _), (show InK .u8 0 by decide), (show InK .i64 0 by decide), (show InK .i64 0 by decide), (RdS.nil _ _ _), (show InK .u8 0 by decide), (show InK .i64 0 by decide), (show InK .i64 0 by decide), (RdS.nil _ _ _), (show InK .i64 100 by decide), (show InK .i64 130 by decide), (show InK .u8 1 by decide)⟩)⟩, trivial⟩
       refine Reg.take rfl rfl ?_
       obtain ⟨z516, hz516, h254⟩ := bnd h254
       refine Reg.relC (.bool z516) [(82, _)] rfl rfl (RSub.cons rfl rfl RSub.nil) rfl (nodupB_spec rfl) ?_ ?_
       ·intro w517 e518; simp only [relOut]; intro u478 k479 s480; obtain ⟨cs481, rfl, hR482⟩ := k479; obtain ⟨v486, v491, v496, v501, v506, v511, rfl, r483, r484, r485, hf487, r488, r489, r490, hf492, r493, r494, r495, hf497, r498, r499, r500, hf502, r503, r504, r505, hf507, r508, r509, r510, hf512, r513, r514, r515⟩ := StateE_R.1 hR482; refine s_call rfl Tryd.call24 rfl ?_; refine (C_ref03_SameState (hI251.mlt.ext e518) r131 r132 r133 ((hf135.adv (x169.trans (x172.trans ((hI171.eraseH 0).trans ((hI173.addOwnA e178 hf180).trans ((Adv.of_ext e187).trans ((hI191.addOwnA e195 hf197).trans ((hI198.eraseH 0).trans ((hI200.addOwnA e205 hf207).trans ((hI209.addOwnA e213 hf215).trans ((hI216.eraseH 0).trans ((hI218.addOwnA e223 hf225).trans (x231.trans ((hI230.eraseH 0).trans ((Adv.of_ext e237).trans (x247.trans (x250.trans (hI249.eraseH 0)))))))))))))))))).adv (Adv.of_ext e518)) r136 r137 r138 ((hf140.adv (x169.trans (x172.trans ((hI171.eraseH 0).trans ((hI173.addOwnA e178 hf180).trans ((Adv.of_ext e187).trans ((hI191.addOwnA e195 hf197).trans ((hI198.eraseH 0).trans ((hI200.addOwnA e205 hf207).trans ((hI209.addOwnA e213 hf215).trans ((hI216.eraseH 0).trans ((hI218.addOwnA e223 hf225).trans (x231.trans ((hI230.eraseH 0).trans ((Adv.of_ext e237).trans (x247.trans (x250.trans (hI249.eraseH 0)))))))))))))))))).adv (Adv.of_ext e518)) r141 r142 r143 ((hf145.adv (x169.trans (x172.trans ((hI171.eraseH 0).trans ((hI173.addOwnA e178 hf180).trans ((Adv.of_ext e187).trans ((hI191.addOwnA e195 hf197).trans ((hI198.eraseH 0).trans ((hI200.addOwnA e205 hf207).trans ((hI209.addOwnA e213 hf215).trans ((hI216.eraseH 0).trans ((hI218.addOwnA e223 hf225).trans (x231.trans ((hI230.eraseH 0).trans ((Adv.of_ext e237).trans (x247.trans (x250.trans (hI249.eraseH 0)))))))))))))))))).adv (Adv.of_ext e518)) r146 r147 r148 ((hf150.adv (x169.trans (x172.trans ((hI171.eraseH 0).trans ((hI173.addOwnA e178 hf180).trans ((Adv.of_ext e187).trans ((hI191.addOwnA e195 hf197).trans ((hI198.eraseH 0).trans ((hI200.addOwnA e205 hf207).trans ((hI209.addOwnA e213 hf215).trans ((hI216.eraseH 0).trans ((hI218.addOwnA e223 hf225).trans (x231.trans ((hI230.eraseH 0).trans ((Adv.of_ext e237).trans (x247.trans (x250.trans (hI249.eraseH 0)))))))))))))))))).adv (Adv.of_ext e518)) r151 r152 r153 ((hf155.adv (x169.trans (x172.trans ((hI171.eraseH 0).trans ((hI173.addOwnA e178 hf180).trans ((Adv.of_ext e187).trans ((hI191.addOwnA e195 hf197).trans ((hI198.eraseH 0).trans ((hI200.addOwnA e205 hf207).trans ((hI209.addOwnA e213 hf215).trans ((hI216.eraseH 0).trans ((hI218.addOwnA e223 hf225).trans (x231.trans ((hI230.eraseH 0).trans ((Adv.of_ext e237).trans (x247.trans (x250.trans (hI249.eraseH 0)))))))))))))))))).adv (Adv.of_ext e518)) r156 r157 r158 ((hf160.adv (x169.trans (x172.trans ((hI171.eraseH 0).trans ((hI173.addOwnA e178 hf180).trans ((Adv.of_ext e187).trans ((hI191.addOwnA e195 hf197).trans ((hI198.eraseH 0).trans ((hI200.addOwnA e205 hf207).trans ((hI209.addOwnA e213 hf215).trans ((hI216.eraseH 0).trans ((hI218.addOwnA e223 hf225).trans (x231.trans ((hI230.eraseH 0).trans ((Adv.of_ext e237).trans (x247.trans (x250.trans (hI249.eraseH 0)))))))))))))))))).adv (Adv.of_ext e518)) r161 r162 r163 r483 r484 r485 hf487 r488 r489 r490 hf492 r493 r494 r495 hf497 r498 r499 r500 hf502 r503 r504 r505 hf507 r508 r509 r510 hf512 r513 r514 r515 hz516).mono ?_; rintro _ w519 ⟨rfl, x520⟩; refine ⟨_, rfl, ?_⟩; exact Reg.nil ⟨rfl, x520, _, rfl, rfl, trivial⟩
       refine s_pkT rfl rfl rfl (s_mv rfl rfl (Reg.gsplit (t := 85) rfl (fun hg522 => ?_) (fun hg522 => ?_)))
       ·replace h254 := cdT hg522 h254
        refine Reg.take rfl rfl (s_mv rfl rfl (Reg.take rfl rfl (s_eql rfl rfl rfl (s_pkT rfl rfl rfl (s_mv rfl rfl (Reg.gsplit (t := 89) rfl (fun hg523 => ?_) (fun hg523 => ?_)))))))
        ·replace h254 := cdT hg523 h254
         refine Reg.take rfl rfl (s_mv rfl rfl (Reg.take rfl rfl (s_eql rfl rfl rfl (s_pkT rfl rfl rfl (s_mv rfl rfl (Reg.gsplit (t := 93) rfl (fun hg524 => ?_) (fun hg524 => ?_)))))))
         ·replace h254 := cdT hg524 h254
          refine Reg.take rfl rfl (s_mv rfl rfl (Reg.take rfl rfl (s_eql rfl rfl rfl (s_pkT rfl rfl rfl (s_mv rfl rfl (Reg.gsplit (t := 97) rfl (fun hg525 => ?_) (fun hg525 => ?_)))))))
          ·replace h254 := cdT hg525 h254
           refine Reg.take rfl rfl (s_mv rfl rfl (Reg.take rfl rfl (s_eql rfl rfl rfl (s_pkT rfl rfl rfl (s_mv rfl rfl (Reg.gsplit (t := 101) rfl (fun hg526 => ?_) (fun hg526 => ?_)))))))
           ·replace h254 := cdT hg526 h254
            refine Reg.take rfl rfl (s_mv rfl rfl (Reg.take rfl rfl (Reg.rel (.p fun v w' => RdS (intE .i64) (mm [ownR [] ReportE 61 v224 z219, ownR [] ClashE 55 v206 z201, ownR [] ReportE 61 v179 z175] M) w' v ([7, 8, 9] : List Int)) [] rfl rfl rfl RSub.nil rfl (nodupB_spec rfl) ?_ (fun v w1 w2 e h => h.adv (Adv.of_ext e)) ?_)))
            ·intro w527 e528; simp only [relOut]; refine s_bs (E := (intE .i64)) (M := mm [ownR [] ReportE 61 v224 z219, ownR [] ClashE 55 v206 z201, ownR [] ReportE 61 v179 z175] M) (Bb := 0) (xs := ([7, 8, 9] : List Int)) sl36 rfl rfl (Cls.cons rfl (Cls.cons rfl (Cls.cons rfl Cls.nil))) (Chs.cons ⟨rfl, (by decide)⟩ (Chs.cons ⟨rfl, (by decide)⟩ (Chs.cons ⟨rfl, (by decide)⟩ Chs.nil))) (hI251.mlt.ext e528) (Nat.zero_le _) rfl rfl ?_; intro a529 w530 x531 _ h532 _; exact Reg.nil ⟨rfl, x531, _, rfl, h532, trivial⟩
            refine Reg.take rfl rfl (Reg.rel (.p fun v w' => ∃ cs : List Value, v = Value.agg (List.toArray cs) ∧ ClashE.R (mm [ownR [] ReportE 61 v224 z219, ownR [] ClashE 55 v206 z201, ownR [] ReportE 61 v179 z175] M) w' cs (Clash.mk 4 45 ([7, 8, 9] : List Int))) [(103, _)] rfl rfl rfl (RSub.cons rfl rfl RSub.nil) rfl (nodupB_spec rfl) ?_ (fun v w1 w2 e h => ⟨h.choose, h.choose_spec.1, ClashE.kp e.kp h.choose_spec.2⟩) ?_)
            ·intro w536 e537; simp only [relOut]; intro u533 k534 s535; refine s_bd [(0, 1), (1, 1), (2, 1)] Tryd.zeroValue55 rfl Tryd.underlying55 (fun _ => by simp [Tryd.sizeOf3, Tryd.sizeOf36, Tryd.sizeOf5]) rfl (Cls.cons rfl (Cls.cons rfl (Cls.cons (RdS.cells1 k534) (Cls.nil)))) rfl rfl ?_; exact Reg.nil ⟨rfl, Kp.refl _ _, _, rfl, ⟨_, rfl, ((ClashE_R (x := (Clash.mk 4 45 ([7, 8, 9] : List Int)))).2 ⟨_, rfl, (show InK .u8 4 by decide), (show InK .i64 45 by decide), k534⟩)⟩, trivial⟩
            refine Reg.take rfl rfl (Reg.rel (.p fun v w' => RdS ClashE (mm [ownR [] ReportE 61 v224 z219, ownR [] ClashE 55 v206 z201, ownR [] ReportE 61 v179 z175] M) w' v ([(Clash.mk 4 45 ([7, 8, 9] : List Int))] : List Clash)) [(104, _)] rfl rfl rfl (RSub.cons rfl rfl RSub.nil) rfl (nodupB_spec rfl) ?_ (fun v w1 w2 e h => h.adv (Adv.of_ext e)) ?_)
            ·intro w547 e548; simp only [relOut]; intro u538 k539 s540; obtain ⟨cs541, rfl, hR542⟩ := k539; obtain ⟨v545, rfl, r543, r544, hf546⟩ := ClashE_R.1 hR542; refine s_bs (E := ClashE) (M := mm [ownR [] ReportE 61 v224 z219, ownR [] ClashE 55 v206 z201, ownR [] ReportE 61 v179 z175] M) (Bb := 0) (xs := ([(Clash.mk 4 45 ([7, 8, 9] : List Int))] : List Clash)) sl47 rfl rfl (Cls.cons rfl Cls.nil) (Chs.cons ((ClashE_R (x := (Clash.mk 4 45 ([7, 8, 9] : List Int)))).2 ⟨_, rfl, r543, r544, hf546⟩) Chs.nil) (hI251.mlt.ext e548) (Nat.zero_le _) rfl rfl ?_; intro a549 w550 x551 _ h552 _; exact Reg.nil ⟨rfl, x551, _, rfl, h552, trivial⟩
            refine Reg.take rfl rfl ?_
            obtain ⟨z556, hz556, h254⟩ := bnd h254
            refine Reg.relC (.bool z556) [(105, _)] rfl rfl (RSub.cons rfl rfl RSub.nil) rfl (nodupB_spec rfl) ?_ ?_
            ·intro w557 e558; simp only [relOut]; intro u553 k554 s555; refine s_call rfl Tryd.call25 rfl ?_; refine (C_ref03_SameClashes ((hI251.sel [0, 2] rfl).mlt.ext e558) ((hI251.lendRd [0, 2] 1 rfl rfl).adv (Adv.of_ext e558)) (k554.adv (Hp.selA (σ := [ownR [] ReportE 61 v224 z219, ownR [] ClashE 55 v206 z201, ownR [] ReportE 61 v179 z175]) [0, 2])) hz556).mono ?_; rintro _ w559 ⟨rfl, x560⟩; refine ⟨_, rfl, ?_⟩; exact Reg.nil ⟨rfl, x560, _, rfl, rfl, trivial⟩
            refine s_pkT rfl rfl rfl (s_mv rfl rfl (Reg.gsplit (t := 108) rfl (fun hg562 => ?_) (fun hg562 => ?_)))
            ·replace h254 := cdT hg562 h254
             refine Reg.take rfl rfl (s_mv rfl rfl (Reg.take rfl rfl (s_eql rfl rfl rfl (s_pkT rfl rfl rfl (s_mv rfl rfl (Reg.gsplit (t := 112) rfl (fun hg563 => ?_) (fun hg563 => ?_)))))))
             ·replace h254 := cdT hg563 h254
              refine Reg.take rfl rfl (s_mv rfl rfl (Reg.take rfl rfl (s_lenO rfl (hI251.ownAt 0 rfl) Tryd.underlying22 rfl ?_)))
              refine Reg.take rfl rfl (s_eql rfl rfl rfl (s_pkT rfl rfl rfl (s_mv rfl rfl (Reg.gsplit (t := 117) rfl (fun hg564 => ?_) (fun hg564 => ?_)))))
              ·replace h254 := cdT hg564 h254
               refine Reg.take rfl rfl (s_mv rfl rfl (Reg.take rfl rfl ?_))
               obtain ⟨y565, hy565, h254⟩ := bnd h254
               refine y_ia 0 hI251 rfl rfl rfl hy565 Tryd.underlying22 Tryd.sizeOf61 rfl ?_
               intro g566 cs567 hg568 hR569 hC570
               have khR569 := hR569
               obtain ⟨rfl, r571, r572, r573, r574, r575, r576, r577, r578⟩ := ReportE_R.1 hR569
               refine Reg.take rfl rfl (s_lda rfl hC570 Tryd.isAgg61 rfl Tryd.sizeOf61 rfl (Reg.take rfl rfl ?_))
               obtain ⟨z579, hz580, h254⟩ := bnd h254
               refine s_callq rfl rfl Tryd.call29 rfl (fun w581 e582 => (C_law03_rep (hI251.mlt.ext e582) (by decide) (by decide) (by decide) (by decide) (by decide) (by decide) (by decide) hz580).mono (fun _ _ hq => ⟨hq.1, hq.2.2.2.2.2.2.2.2.2⟩)) ?_
               have r583 := Calls.fact (C_law03_rep hI251.mlt (by decide) (by decide) (by decide) (by decide) (by decide) (by decide) (by decide) hz580) (fun _ _ hq => hq.2.1)
               have r584 := Calls.fact (C_law03_rep hI251.mlt (by decide) (by decide) (by decide) (by decide) (by decide) (by decide) (by decide) hz580) (fun _ _ hq => hq.2.2.1)
               have r585 := Calls.fact (C_law03_rep hI251.mlt (by decide) (by decide) (by decide) (by decide) (by decide) (by decide) (by decide) hz580) (fun _ _ hq => hq.2.2.2.1)
               have r586 := Calls.fact (C_law03_rep hI251.mlt (by decide) (by decide) (by decide) (by decide) (by decide) (by decide) (by decide) hz580) (fun _ _ hq => hq.2.2.2.2.1)
               have r587 := Calls.fact (C_law03_rep hI251.mlt (by decide) (by decide) (by decide) (by decide) (by decide) (by decide) (by decide) hz580) (fun _ _ hq => hq.2.2.2.2.2.1)
               have r588 := Calls.fact (C_law03_rep hI251.mlt (by decide) (by decide) (by decide) (by decide) (by decide) (by decide) (by decide) hz580) (fun _ _ hq => hq.2.2.2.2.2.2.1)
               have r589 := Calls.fact (C_law03_rep hI251.mlt (by decide) (by decide) (by decide) (by decide) (by decide) (by decide) (by decide) hz580) (fun _ _ hq => hq.2.2.2.2.2.2.2.1)
               have r590 := Calls.fact (C_law03_rep hI251.mlt (by decide) (by decide) (by decide) (by decide) (by decide) (by decide) (by decide) hz580) (fun _ _ hq => hq.2.2.2.2.2.2.2.2.1)
               refine Reg.take rfl rfl (s_eqS (Report_eq y565 z579) Tryd.eqGuardType61 rfl rfl rfl ?_)
               refine s_pkT rfl rfl rfl (s_as rfl rfl (Reg.nilF [] RSub.nil (nodupB_spec rfl) ?_))
               intro w591 e592
               refine Reg.nil ?_
               have hI593 := hI251.ext e592
               obtain rfl := Option.some.inj h254
               refine ⟨rfl, decide (y565 = z579), ⟨hI593, (Adv.of_ext e592), rfl⟩, sb1 rfl⟩
              replace h254 := cdF hg564 h254
              iterate 5 refine Reg.pass rfl rfl rfl rfl ?_
              refine s_pkF rfl rfl rfl (s_as rfl rfl (Reg.nilF [] RSub.nil (nodupB_spec rfl) ?_))
              intro w594 e595
              refine Reg.nil ?_
              have hI596 := hI251.ext e595
              obtain rfl := Option.some.inj h254
              refine ⟨rfl, false, ⟨hI596, (Adv.of_ext e595), rfl⟩, sb1 rfl⟩
             replace h254 := cdF hg563 h254
             iterate 3 refine Reg.pass rfl rfl rfl rfl ?_
             refine s_pkF rfl rfl rfl (s_mv rfl rfl ?_)
             iterate 5 refine Reg.pass rfl rfl rfl rfl ?_
             refine s_pkF rfl rfl rfl (s_as rfl rfl (Reg.nilF [] RSub.nil (nodupB_spec rfl) ?_))
             intro w597 e598
             refine Reg.nil ?_
             have hI599 := hI251.ext e598
             obtain rfl := Option.some.inj h254
             refine ⟨rfl, false, ⟨hI599, (Adv.of_ext e598), rfl⟩, sb1 rfl⟩
            replace h254 := cdF hg562 h254
            refine Reg.pass rfl rfl rfl rfl (Reg.pass rfl rfl rfl rfl (s_pkF rfl rfl rfl (s_mv rfl rfl ?_)))
            iterate 3 refine Reg.pass rfl rfl rfl rfl ?_
            refine s_pkF rfl rfl rfl (s_mv rfl rfl ?_)
            iterate 5 refine Reg.pass rfl rfl rfl rfl ?_
            refine s_pkF rfl rfl rfl (s_as rfl rfl (Reg.nilF [] RSub.nil (nodupB_spec rfl) ?_))
            intro w600 e601
            refine Reg.nil ?_
            have hI602 := hI251.ext e601
            obtain rfl := Option.some.inj h254
            refine ⟨rfl, false, ⟨hI602, (Adv.of_ext e601), rfl⟩, sb1 rfl⟩
           replace h254 := cdF hg526 h254
           iterate 5 refine Reg.pass rfl rfl rfl rfl ?_
           refine s_pkF rfl rfl rfl (s_mv rfl rfl (Reg.pass rfl rfl rfl rfl (Reg.pass rfl rfl rfl rfl (s_pkF rfl rfl rfl (s_mv rfl rfl ?_)))))
           iterate 3 refine Reg.pass rfl rfl rfl rfl ?_
           refine s_pkF rfl rfl rfl (s_mv rfl rfl ?_)
           iterate 5 refine Reg.pass rfl rfl rfl rfl ?_
           refine s_pkF rfl rfl rfl (s_as rfl rfl (Reg.nilF [] RSub.nil (nodupB_spec rfl) ?_))
           intro w603 e604
           refine Reg.nil ?_
           have hI605 := hI251.ext e604
           obtain rfl := Option.some.inj h254
           refine ⟨rfl, false, ⟨hI605, (Adv.of_ext e604), rfl⟩, sb1 rfl⟩
          replace h254 := cdF hg525 h254
          refine Reg.pass rfl rfl rfl rfl (Reg.pass rfl rfl rfl rfl (s_pkF rfl rfl rfl (s_mv rfl rfl ?_)))
          iterate 5 refine Reg.pass rfl rfl rfl rfl ?_
          refine s_pkF rfl rfl rfl (s_mv rfl rfl (Reg.pass rfl rfl rfl rfl (Reg.pass rfl rfl rfl rfl (s_pkF rfl rfl rfl (s_mv rfl rfl ?_)))))
          iterate 3 refine Reg.pass rfl rfl rfl rfl ?_
          refine s_pkF rfl rfl rfl (s_mv rfl rfl ?_)
          iterate 5 refine Reg.pass rfl rfl rfl rfl ?_
          refine s_pkF rfl rfl rfl (s_as rfl rfl (Reg.nilF [] RSub.nil (nodupB_spec rfl) ?_))
          intro w606 e607
          refine Reg.nil ?_
          have hI608 := hI251.ext e607
          obtain rfl := Option.some.inj h254
          refine ⟨rfl, false, ⟨hI608, (Adv.of_ext e607), rfl⟩, sb1 rfl⟩
         replace h254 := cdF hg524 h254
         refine Reg.pass rfl rfl rfl rfl (Reg.pass rfl rfl rfl rfl (s_pkF rfl rfl rfl (s_mv rfl rfl (Reg.pass rfl rfl rfl rfl (Reg.pass rfl rfl rfl rfl (s_pkF rfl rfl rfl (s_mv rfl rfl ?_)))))))
         iterate 5 refine Reg.pass rfl rfl rfl rfl ?_
         refine s_pkF rfl rfl rfl (s_mv rfl rfl (Reg.pass rfl rfl rfl rfl (Reg.pass rfl rfl rfl rfl (s_pkF rfl rfl rfl (s_mv rfl rfl ?_)))))
         iterate 3 refine Reg.pass rfl rfl rfl rfl ?_
         refine s_pkF rfl rfl rfl (s_mv rfl rfl ?_)
         iterate 5 refine Reg.pass rfl rfl rfl rfl ?_
         refine s_pkF rfl rfl rfl (s_as rfl rfl (Reg.nilF [] RSub.nil (nodupB_spec rfl) ?_))
         intro w609 e610
         refine Reg.nil ?_
         have hI611 := hI251.ext e610
         obtain rfl := Option.some.inj h254
         refine ⟨rfl, false, ⟨hI611, (Adv.of_ext e610), rfl⟩, sb1 rfl⟩
        replace h254 := cdF hg523 h254
        refine Reg.pass rfl rfl rfl rfl (Reg.pass rfl rfl rfl rfl (s_pkF rfl rfl rfl (s_mv rfl rfl (Reg.pass rfl rfl rfl rfl (Reg.pass rfl rfl rfl rfl (s_pkF rfl rfl rfl (s_mv rfl rfl (Reg.pass rfl rfl rfl rfl (Reg.pass rfl rfl rfl rfl (s_pkF rfl rfl rfl (s_mv rfl rfl ?_)))))))))))
        iterate 5 refine Reg.pass rfl rfl rfl rfl ?_
        refine s_pkF rfl rfl rfl (s_mv rfl rfl (Reg.pass rfl rfl rfl rfl (Reg.pass rfl rfl rfl rfl (s_pkF rfl rfl rfl (s_mv rfl rfl ?_)))))
        iterate 3 refine Reg.pass rfl rfl rfl rfl ?_
        refine s_pkF rfl rfl rfl (s_mv rfl rfl ?_)
        iterate 5 refine Reg.pass rfl rfl rfl rfl ?_
        refine s_pkF rfl rfl rfl (s_as rfl rfl (Reg.nilF [] RSub.nil (nodupB_spec rfl) ?_))
        intro w612 e613
        refine Reg.nil ?_
        have hI614 := hI251.ext e613
        obtain rfl := Option.some.inj h254
        refine ⟨rfl, false, ⟨hI614, (Adv.of_ext e613), rfl⟩, sb1 rfl⟩
       replace h254 := cdF hg522 h254
       refine Reg.pass rfl rfl rfl rfl (Reg.pass rfl rfl rfl rfl (s_pkF rfl rfl rfl (s_mv rfl rfl (Reg.pass rfl rfl rfl rfl (Reg.pass rfl rfl rfl rfl (s_pkF rfl rfl rfl (s_mv rfl rfl (Reg.pass rfl rfl rfl rfl (Reg.pass rfl rfl rfl rfl (s_pkF rfl rfl rfl (s_mv rfl rfl ?_)))))))))))
       refine Reg.pass rfl rfl rfl rfl (Reg.pass rfl rfl rfl rfl (s_pkF rfl rfl rfl (s_mv rfl rfl ?_)))
       iterate 5 refine Reg.pass rfl rfl rfl rfl ?_
       refine s_pkF rfl rfl rfl (s_mv rfl rfl (Reg.pass rfl rfl rfl rfl (Reg.pass rfl rfl rfl rfl (s_pkF rfl rfl rfl (s_mv rfl rfl ?_)))))
       iterate 3 refine Reg.pass rfl rfl rfl rfl ?_
       refine s_pkF rfl rfl rfl (s_mv rfl rfl ?_)
       iterate 5 refine Reg.pass rfl rfl rfl rfl ?_
       refine s_pkF rfl rfl rfl (s_as rfl rfl (Reg.nilF [] RSub.nil (nodupB_spec rfl) ?_))
       intro w615 e616
       refine Reg.nil ?_
       have hI617 := hI251.ext e616
       obtain rfl := Option.some.inj h254
       refine ⟨rfl, false, ⟨hI617, (Adv.of_ext e616), rfl⟩, sb1 rfl⟩
      replace h254 := cdF hg445 h254
      iterate 7 refine Reg.pass rfl rfl rfl rfl ?_
      refine s_pkF rfl rfl rfl (s_mv rfl rfl (Reg.pass rfl rfl rfl rfl (Reg.pass rfl rfl rfl rfl (s_pkF rfl rfl rfl (s_mv rfl rfl (Reg.pass rfl rfl rfl rfl (Reg.pass rfl rfl rfl rfl (s_pkF rfl rfl rfl (s_mv rfl rfl (Reg.pass rfl rfl rfl rfl (Reg.pass rfl rfl rfl rfl ?_)))))))))))
      refine s_pkF rfl rfl rfl (s_mv rfl rfl (Reg.pass rfl rfl rfl rfl (Reg.pass rfl rfl rfl rfl (s_pkF rfl rfl rfl (s_mv rfl rfl ?_)))))
      iterate 5 refine Reg.pass rfl rfl rfl rfl ?_
      refine s_pkF rfl rfl rfl (s_mv rfl rfl (Reg.pass rfl rfl rfl rfl (Reg.pass rfl rfl rfl rfl (s_pkF rfl rfl rfl (s_mv rfl rfl ?_)))))
      iterate 3 refine Reg.pass rfl rfl rfl rfl ?_
      refine s_pkF rfl rfl rfl (s_mv rfl rfl ?_)
      iterate 5 refine Reg.pass rfl rfl rfl rfl ?_
      refine s_pkF rfl rfl rfl (s_as rfl rfl (Reg.nilF [] RSub.nil (nodupB_spec rfl) ?_))
      intro w618 e619
      refine Reg.nil ?_
      have hI620 := hI251.ext e619
      obtain rfl := Option.some.inj h254
      refine ⟨rfl, false, ⟨hI620, (Adv.of_ext e619), rfl⟩, sb1 rfl⟩
     replace h254 := cdF hg444 h254
     refine Reg.pass rfl rfl rfl rfl (Reg.pass rfl rfl rfl rfl (s_pkF rfl rfl rfl (s_mv rfl rfl ?_)))
     iterate 7 refine Reg.pass rfl rfl rfl rfl ?_
     refine s_pkF rfl rfl rfl (s_mv rfl rfl (Reg.pass rfl rfl rfl rfl (Reg.pass rfl rfl rfl rfl (s_pkF rfl rfl rfl (s_mv rfl rfl (Reg.pass rfl rfl rfl rfl (Reg.pass rfl rfl rfl rfl (s_pkF rfl rfl rfl (s_mv rfl rfl (Reg.pass rfl rfl rfl rfl (Reg.pass rfl rfl rfl rfl ?_)))))))))))
     refine s_pkF rfl rfl rfl (s_mv rfl rfl (Reg.pass rfl rfl rfl rfl (Reg.pass rfl rfl rfl rfl (s_pkF rfl rfl rfl (s_mv rfl rfl ?_)))))
     iterate 5 refine Reg.pass rfl rfl rfl rfl ?_
     refine s_pkF rfl rfl rfl (s_mv rfl rfl (Reg.pass rfl rfl rfl rfl (Reg.pass rfl rfl rfl rfl (s_pkF rfl rfl rfl (s_mv rfl rfl ?_)))))
     iterate 3 refine Reg.pass rfl rfl rfl rfl ?_
     refine s_pkF rfl rfl rfl (s_mv rfl rfl ?_)
     iterate 5 refine Reg.pass rfl rfl rfl rfl ?_
     refine s_pkF rfl rfl rfl (s_as rfl rfl (Reg.nilF [] RSub.nil (nodupB_spec rfl) ?_))
     intro w621 e622
     refine Reg.nil ?_
     have hI623 := hI251.ext e622
     obtain rfl := Option.some.inj h254
     refine ⟨rfl, false, ⟨hI623, (Adv.of_ext e622), rfl⟩, sb1 rfl⟩
    replace h254 := cdF hg337 h254
    iterate 8 refine Reg.pass rfl rfl rfl rfl ?_
    refine s_pkF rfl rfl rfl (s_mv rfl rfl (Reg.pass rfl rfl rfl rfl (Reg.pass rfl rfl rfl rfl (s_pkF rfl rfl rfl (s_mv rfl rfl ?_)))))
    iterate 7 refine Reg.pass rfl rfl rfl rfl ?_
    refine s_pkF rfl rfl rfl (s_mv rfl rfl (Reg.pass rfl rfl rfl rfl (Reg.pass rfl rfl rfl rfl (s_pkF rfl rfl rfl (s_mv rfl rfl (Reg.pass rfl rfl rfl rfl (Reg.pass rfl rfl rfl rfl (s_pkF rfl rfl rfl (s_mv rfl rfl (Reg.pass rfl rfl rfl rfl (Reg.pass rfl rfl rfl rfl ?_)))))))))))
    refine s_pkF rfl rfl rfl (s_mv rfl rfl (Reg.pass rfl rfl rfl rfl (Reg.pass rfl rfl rfl rfl (s_pkF rfl rfl rfl (s_mv rfl rfl ?_)))))
    iterate 5 refine Reg.pass rfl rfl rfl rfl ?_
    refine s_pkF rfl rfl rfl (s_mv rfl rfl (Reg.pass rfl rfl rfl rfl (Reg.pass rfl rfl rfl rfl (s_pkF rfl rfl rfl (s_mv rfl rfl ?_)))))
    iterate 3 refine Reg.pass rfl rfl rfl rfl ?_
    refine s_pkF rfl rfl rfl (s_mv rfl rfl ?_)
    iterate 5 refine Reg.pass rfl rfl rfl rfl ?_
    refine s_pkF rfl rfl rfl (s_as rfl rfl (Reg.nilF [] RSub.nil (nodupB_spec rfl) ?_))
    intro w624 e625
    refine Reg.nil ?_
    have hI626 := hI251.ext e625
    obtain rfl := Option.some.inj h254
    refine ⟨rfl, false, ⟨hI626, (Adv.of_ext e625), rfl⟩, sb1 rfl⟩
   replace h254 := cdF hg336 h254
   refine Reg.pass rfl rfl rfl rfl (Reg.pass rfl rfl rfl rfl (s_pkF rfl rfl rfl (s_mv rfl rfl ?_)))
   iterate 8 refine Reg.pass rfl rfl rfl rfl ?_
   refine s_pkF rfl rfl rfl (s_mv rfl rfl (Reg.pass rfl rfl rfl rfl (Reg.pass rfl rfl rfl rfl (s_pkF rfl rfl rfl (s_mv rfl rfl ?_)))))
   iterate 7 refine Reg.pass rfl rfl rfl rfl ?_
   refine s_pkF rfl rfl rfl (s_mv rfl rfl (Reg.pass rfl rfl rfl rfl (Reg.pass rfl rfl rfl rfl (s_pkF rfl rfl rfl (s_mv rfl rfl (Reg.pass rfl rfl rfl rfl (Reg.pass rfl rfl rfl rfl (s_pkF rfl rfl rfl (s_mv rfl rfl (Reg.pass rfl rfl rfl rfl (Reg.pass rfl rfl rfl rfl ?_)))))))))))
   refine s_pkF rfl rfl rfl (s_mv rfl rfl (Reg.pass rfl rfl rfl rfl (Reg.pass rfl rfl rfl rfl (s_pkF rfl rfl rfl (s_mv rfl rfl ?_)))))
   iterate 5 refine Reg.pass rfl rfl rfl rfl ?_
   refine s_pkF rfl rfl rfl (s_mv rfl rfl (Reg.pass rfl rfl rfl rfl (Reg.pass rfl rfl rfl rfl (s_pkF rfl rfl rfl (s_mv rfl rfl ?_)))))
   iterate 3 refine Reg.pass rfl rfl rfl rfl ?_
   refine s_pkF rfl rfl rfl (s_mv rfl rfl ?_)
   iterate 5 refine Reg.pass rfl rfl rfl rfl ?_
   refine s_pkF rfl rfl rfl (s_as rfl rfl (Reg.nilF [] RSub.nil (nodupB_spec rfl) ?_))
   intro w627 e628
   refine Reg.nil ?_
   have hI629 := hI251.ext e628
   obtain rfl := Option.some.inj h254
   refine ⟨rfl, false, ⟨hI629, (Adv.of_ext e628), rfl⟩, sb1 rfl⟩
  replace h254 := cdF hg259 h254
  iterate 6 refine Reg.pass rfl rfl rfl rfl ?_
  refine s_pkF rfl rfl rfl (s_mv rfl rfl (Reg.pass rfl rfl rfl rfl (Reg.pass rfl rfl rfl rfl (s_pkF rfl rfl rfl (s_mv rfl rfl ?_)))))
  iterate 8 refine Reg.pass rfl rfl rfl rfl ?_
  refine s_pkF rfl rfl rfl (s_mv rfl rfl (Reg.pass rfl rfl rfl rfl (Reg.pass rfl rfl rfl rfl (s_pkF rfl rfl rfl (s_mv rfl rfl ?_)))))
  iterate 7 refine Reg.pass rfl rfl rfl rfl ?_
  refine s_pkF rfl rfl rfl (s_mv rfl rfl (Reg.pass rfl rfl rfl rfl (Reg.pass rfl rfl rfl rfl (s_pkF rfl rfl rfl (s_mv rfl rfl (Reg.pass rfl rfl rfl rfl (Reg.pass rfl rfl rfl rfl (s_pkF rfl rfl rfl (s_mv rfl rfl (Reg.pass rfl rfl rfl rfl (Reg.pass rfl rfl rfl rfl ?_)))))))))))
  refine s_pkF rfl rfl rfl (s_mv rfl rfl (Reg.pass rfl rfl rfl rfl (Reg.pass rfl rfl rfl rfl (s_pkF rfl rfl rfl (s_mv rfl rfl ?_)))))
  iterate 5 refine Reg.pass rfl rfl rfl rfl ?_
  refine s_pkF rfl rfl rfl (s_mv rfl rfl (Reg.pass rfl rfl rfl rfl (Reg.pass rfl rfl rfl rfl (s_pkF rfl rfl rfl (s_mv rfl rfl ?_)))))
  iterate 3 refine Reg.pass rfl rfl rfl rfl ?_
  refine s_pkF rfl rfl rfl (s_mv rfl rfl ?_)
  iterate 5 refine Reg.pass rfl rfl rfl rfl ?_
  refine s_pkF rfl rfl rfl (s_as rfl rfl (Reg.nilF [] RSub.nil (nodupB_spec rfl) ?_))
  intro w630 e631
  refine Reg.nil ?_
  have hI632 := hI251.ext e631
  obtain rfl := Option.some.inj h254
  refine ⟨rfl, false, ⟨hI632, (Adv.of_ext e631), rfl⟩, sb1 rfl⟩
 rintro x255 w256 ⟨hI257, hA258, rfl⟩
 refine cw_ret ?_
 obtain rfl := Option.some.inj h
 refine fin1 Tryd.results26 rfl ?_
 exact ⟨rfl, hI257.kp⟩
noncomputable def P.law03_ready (l : (List Report)) (id : Int) (days : (List Int)) : Option Bool :=
  Option.bind (cond (decide (80 < (l.length : Int))) (some true) (Option.bind (P.ref03_Check l) fun z2 => cond (!decide (z2 = 0)) (some true) (cond (decide (id < 0)) (some true) (some (decide (999999 < id)))))) fun x10 => cond x10 (some false) (Option.bind (loopM (S := Int) (R := (Unit) ⊕ (Bool)) (fun x12 => cond (decide (x12 < (days.length : Int))) (Option.bind (ixo days x12) fun y14 => Option.bind (cond (decide (y14 < 0)) (some true) (some (decide (100000 < y14)))) fun x22 => cond x22 (some (.inr (.inr false))) (Option.bind (chk .i64 (x12 + 1)) fun n24 => some (.inl n24))) (some (.inr (.inl ())))) 0) fun j25 => Sum.elim (fun _ => some true) (fun r26 => some r26)  j25)
theorem C_law03_ready {M : List Nat} {w : World} (hM : MLt M w) {l : (List Report)} {v_l_0 : Value} (f_l_0 : RdS ReportE M w v_l_0 l) {id : Int} (f_id_0 : InK .i64 id) {days : (List Int)} {v_days_0 : Value} (f_days_0 : RdS (intE .i64) M w v_days_0 days) {r0 : Bool} (h : P.law03_ready l id days = some r0) :
  Calls Tryd.prog 30 (List.toArray [v_l_0, vi id, v_days_0]) w fun e w' => e = .returned (Value.bool r0) ∧ Ext w w' := by
 have hI := Hp.start (Mu := []) hM
 refine calls_cw Tryd.func30 rfl Tryd.ntmps30 rfl ?_
 refine cw_seq (cw_regF (s_as rfl rfl (Reg.nil (cw_seq ?_))))
 obtain ⟨j1, h2, h⟩ := bnd h
 refine cw_keep [0, 1, 2] rfl (cw_seqD 2 (ι := Bool) (fun x3 => [(24, Value.bool x3)]) (fun x3 => fun w4 => Hp w [] M [] w4 ∧ Adv (mm [] M) (mm [] M) w w4 ∧ x3 = j1) ?_ ?_)
 ·refine cw_regF (s_mv rfl rfl (s_len rfl f_l_0 Tryd.underlying22 rfl (s_gtr rfl rfl rfl (s_mv rfl rfl (Reg.gsplit (t := 12) rfl (fun hg7 => ?_) (fun hg7 => ?_))))))
  ·replace h2 := cdT hg7 h2
   iterate 3 refine Reg.pass rfl rfl rfl rfl ?_
   refine s_pkT rfl rfl rfl (s_mv rfl rfl (Reg.pass rfl rfl rfl rfl (Reg.pass rfl rfl rfl rfl (s_pkT rfl rfl rfl (s_mv rfl rfl (Reg.pass rfl rfl rfl rfl (Reg.pass rfl rfl rfl rfl (s_pkT rfl rfl rfl (Reg.nil ?_)))))))))
   obtain rfl := Option.some.inj h2
   refine ⟨rfl, true, ⟨hI, (Adv.refl _ _), rfl⟩, sb2 rfl rfl⟩
  replace h2 := cdF hg7 h2
  refine Reg.take rfl rfl (s_mv rfl rfl (Reg.take rfl rfl ?_))
  obtain ⟨z8, hz9, h2⟩ := bnd h2
  refine s_call rfl Tryd.call18 rfl ((C_ref03_Check hI.mlt f_l_0 hz9).mono ?_)
  rintro _ w10 ⟨rfl, r12, e11⟩
  refine ⟨_, rfl, ?_⟩
  have hI13 := hI.ext e11
  refine Reg.take rfl rfl (s_neq rfl rfl rfl (s_pkF rfl rfl rfl (s_mv rfl rfl (Reg.gsplit (t := 17) rfl (fun hg14 => ?_) (fun hg14 => ?_)))))
  ·replace h2 := cdT hg14 h2
   refine Reg.pass rfl rfl rfl rfl (Reg.pass rfl rfl rfl rfl (s_pkT rfl rfl rfl (s_mv rfl rfl (Reg.pass rfl rfl rfl rfl (Reg.pass rfl rfl rfl rfl (s_pkT rfl rfl rfl (Reg.nil ?_)))))))
   obtain rfl := Option.some.inj h2
   refine ⟨rfl, true, ⟨hI13, hI13.adv, rfl⟩, sb2 rfl rfl⟩
  replace h2 := cdF hg14 h2
  refine Reg.take rfl rfl (s_mv rfl rfl (Reg.take rfl rfl (s_lss rfl rfl rfl (s_pkF rfl rfl rfl (s_mv rfl rfl (Reg.gsplit (t := 21) rfl (fun hg15 => ?_) (fun hg15 => ?_)))))))
  ·replace h2 := cdT hg15 h2
   refine Reg.pass rfl rfl rfl rfl (Reg.pass rfl rfl rfl rfl (s_pkT rfl rfl rfl (Reg.nil ?_)))
   obtain rfl := Option.some.inj h2
   refine ⟨rfl, true, ⟨hI13, hI13.adv, rfl⟩, sb2 rfl rfl⟩
  replace h2 := cdF hg15 h2
  refine Reg.take rfl rfl (s_mv rfl rfl (Reg.take rfl rfl (s_gtr rfl rfl rfl (s_pkF rfl rfl rfl (Reg.nil ?_)))))
  obtain rfl := Option.some.inj h2
  refine ⟨rfl, decide (999999 < id), ⟨hI13, hI13.adv, rfl⟩, sb2 rfl rfl⟩
 rintro x3 w4 ⟨hI5, hA6, rfl⟩
 refine cw_cond rfl (fun hc16 => ?_) (fun hc16 => ?_)
 ·replace h := cdT hc16 h
  refine cw_seq (cw_regF (s_as rfl rfl (Reg.nil (cw_ret ?_))))
  obtain rfl := Option.some.inj h
  refine fin1 Tryd.results30 rfl ?_
  exact ⟨rfl, hI5.kp⟩
 replace h := cdF hc16 h
 refine cw_skip (cw_seq (cw_seq (cw_regF (s_mv rfl rfl (s_len rfl (f_days_0.adv hI5.adv) Tryd.underlying36 rfl (s_mv rfl rfl (Reg.nil ?_)))))))
 obtain ⟨j17, h18, h⟩ := bnd h
 refine cw_keep [25, 26, 27] rfl (cw_unitD 3 (ι := Unit) (fun _ => []) (fun _ => fun w19 => w4 = w19 ∧ (.inl ()) = j17) ?_ ?_)
 ·refine cw_block (cw_keep [27, 25, 26] rfl ?_)
  refine cw_loopM 1 (ι := Int) _ (fun x22 => [(27, vi x22)]) (fun x22 => x22) (fun x22 => fun w24 => w4 = w24 ∧ InK .i64 x22) 0 h18 ⟨rfl, (by decide)⟩ (sb3 rfl rfl rfl) ?_
  rintro x22 _ ⟨rfl, r23⟩ y27 h28 hR29
  refine cw_seq (cw_regF (s_lss rfl rfl rfl (Reg.nil (cw_seq (cw_cond rfl (fun hc30 => ?_) (fun hc30 => ?_))))))
  ·replace h28 := cdT hc30 h28
   refine cw_skip (cw_seq (cw_block (cw_seq (cw_regF ?_))))
   obtain ⟨y31, hy31, h28⟩ := bnd h28
   refine p_ia rfl rfl (f_days_0.adv hI5.adv) hy31 Tryd.underlying36 Tryd.sizeOf3 rfl ?_
   intro b32 o33 cs34 hR35 hC36
   obtain ⟨rfl, r37⟩ := hR35
   refine s_ld rfl (hC36.cells.at 0 rfl) Tryd.isAgg3 rfl (s_as rfl rfl (Reg.nil ?_))
   obtain ⟨j38, h39, h28⟩ := bnd h28
   refine cw_keep [8, 25, 26, 27] rfl (cw_seqD 1 (ι := Bool) (fun x40 => [(36, Value.bool x40)]) (fun x40 => fun w41 => w4 = w41 ∧ x40 = j38) ?_ ?_)
   ·refine cw_regF (s_mv rfl rfl (s_lss rfl rfl rfl (s_mv rfl rfl (Reg.gsplit (t := 33) rfl (fun hg44 => ?_) (fun hg44 => ?_)))))
    ·replace h39 := cdT hg44 h39
     refine Reg.pass rfl rfl rfl rfl (Reg.pass rfl rfl rfl rfl (s_pkT rfl rfl rfl (Reg.nil ?_)))
     obtain rfl := Option.some.inj h39
     refine ⟨rfl, true, ⟨rfl, rfl⟩, sb4 rfl rfl rfl rfl⟩
    replace h39 := cdF hg44 h39
    refine Reg.take rfl rfl (s_mv rfl rfl (Reg.take rfl rfl (s_gtr rfl rfl rfl (s_pkF rfl rfl rfl (Reg.nil ?_)))))
    obtain rfl := Option.some.inj h39
    refine ⟨rfl, decide (100000 < y31), ⟨rfl, rfl⟩, sb4 rfl rfl rfl rfl⟩
   rintro x40 _ ⟨rfl, rfl⟩
   refine cw_cond rfl (fun hc45 => ?_) (fun hc45 => ?_)
   ·replace h28 := cdT hc45 h28
    refine cw_seq (cw_regF (s_as rfl rfl (Reg.nil (cw_ret ?_))))
    obtain rfl := Option.some.inj h28
    obtain rfl := hR29 _ rfl
    replace h := elimR h
    obtain rfl := Option.some.inj h
    refine fin1 Tryd.results30 rfl ?_
    exact ⟨rfl, hI5.kp⟩
   replace h28 := cdF hc45 h28
   refine cw_skip (cw_regF ?_)
   obtain ⟨n46, hn46, h28⟩ := bnd h28
   replace hn46 := chk_out hn46
   refine p_add rfl rfl rfl hn46 (s_mv rfl rfl (Reg.nil ?_))
   obtain rfl := Option.some.inj h28
   refine ⟨rfl, n46, ⟨⟨rfl, hn46.2⟩, rfl⟩, sb3 rfl rfl rfl⟩
  replace h28 := cdF hc30 h28
  refine cw_exit (exB_same ?_)
  obtain rfl := Option.some.inj h28
  obtain rfl := hR29 _ rfl
  refine ⟨rfl, (), ⟨rfl, rfl⟩, Sub.nil _⟩
 rintro _ _ ⟨rfl, rfl⟩
 replace h := elimL h
 refine cw_seq (cw_regF (s_as rfl rfl (Reg.nil (cw_ret ?_))))
 obtain rfl := Option.some.inj h
 refine fin1 Tryd.results30 rfl ?_
 exact ⟨rfl, hI5.kp⟩
noncomputable def P.law03_find (l : (List Report)) (id : Int) : Option (Report × Bool) :=
  Option.bind (loopM (S := Int) (R := (Unit) ⊕ (Report × Bool)) (fun x5 => cond (decide (x5 < (l.length : Int))) (Option.bind (ixo l x5) fun y7 => cond (decide (y7.id = id)) (some (.inr (.inr ((Report.mk y7.id y7.source y7.account y7.made y7.about y7.kind y7.cents y7.of_), true)))) (Option.bind (chk .i64 (x5 + 1)) fun n34 => some (.inl n34))) (some (.inr (.inl ())))) 0) fun j35 => Sum.elim (fun _ => some ((Report.mk 0 0 0 0 0 0 0 0), false)) (fun r39 => some r39)  j35
theorem C_law03_find {M : List Nat} {w : World} (hM : MLt M w) {l : (List Report)} {v_l_0 : Value} (f_l_0 : RdS ReportE M w v_l_0 l) {id : Int} (f_id_0 : InK .i64 id) {r0 : Report} {r1 : Bool} (h : P.law03_find l id = some (r0, r1)) :
  Calls Tryd.prog 33 (List.toArray [v_l_0, vi id]) w fun e w' => e = .returned (Value.tuple (List.toArray [Value.agg (List.toArray (vR r0)), Value.bool r1])) ∧ InK .i64 r0.id ∧ InK .i64 r0.source ∧ InK .i64 r0.account ∧ InK .i64 r0.made ∧ InK .i64 r0.about ∧ InK .u8 r0.kind ∧ InK .i64 r0.cents ∧ InK .i64 r0.of_ ∧ Ext w w' := by
 have hI := Hp.start (Mu := []) hM
 refine calls_cw Tryd.func33 rfl Tryd.ntmps33 rfl ?_
 refine cw_seq (cw_regF (y_al hI Tryd.zeroValue61 rfl rfl ?_))
 intro b1 w2 hI3 x4
 refine s_as rfl rfl (Reg.nil (cw_seq (cw_seq (cw_regF (s_mv rfl rfl (s_len rfl (f_l_0.adv hI3.adv) Tryd.underlying22 rfl (s_mv rfl rfl (Reg.nil ?_))))))))
 obtain ⟨j5, h6, h⟩ := bnd h
 refine cw_keep [1, 8, 9, 10, 4] rfl (cw_unitD 4 (ι := Unit) (fun _ => []) (fun _ => fun w7 => Hp w [] M [rowR 61 b1 zR] w7 ∧ Adv (mm [rowR 61 b1 zR] M) (mm [rowR 61 b1 zR] M) w2 w7 ∧ (.inl ()) = j5) ?_ ?_)
 ·refine cw_block (cw_keep [10, 1, 4, 8, 9] rfl ?_)
  refine cw_loopM 1 (ι := Int) _ (fun x10 => [(10, vi x10)]) (fun x10 => x10) (fun x10 => fun w12 => Hp w [] M [rowR 61 b1 zR] w12 ∧ Adv (mm [rowR 61 b1 zR] M) (mm [rowR 61 b1 zR] M) w2 w12 ∧ InK .i64 x10) 0 h6 ⟨hI3, (Adv.refl _ _), (by decide)⟩ (sb5 rfl rfl rfl rfl rfl) ?_
  rintro x10 w12 ⟨hI13, hA14, r11⟩ y15 h16 hR17
  refine cw_seq (cw_regF (s_lss rfl rfl rfl (Reg.nil (cw_seq (cw_cond rfl (fun hc18 => ?_) (fun hc18 => ?_))))))
  ·replace h16 := cdT hc18 h16
   refine cw_skip (cw_seq (cw_block (cw_seq (cw_regF ?_))))
   obtain ⟨y19, hy19, h16⟩ := bnd h16
   refine p_ia rfl rfl (f_l_0.adv hI13.adv) hy19 Tryd.underlying22 Tryd.sizeOf61 rfl ?_
   intro b20 o21 cs22 hR23 hC24
   obtain ⟨rfl, r25, r26, r27, r28, r29, r30, r31, r32⟩ := ReportE_R.1 hR23
   refine s_lda rfl hC24.cells Tryd.isAgg61 rfl Tryd.sizeOf61 rfl (y_al hI13 Tryd.zeroValue61 rfl rfl ?_)
   intro b33 w34 hI35 x36
   refine y_st 0 hI35 rfl rfl rfl rfl Tryd.sizeOf61 rfl rfl (on8 rfl rfl rfl rfl rfl rfl rfl rfl) ?_
   intro w37 hI38 x39
   have hC41 := hI38.freezeRow 0 rfl
   have hI40 := hI38.erase 0
   refine Reg.nil (cw_seq (cw_regF (s_fa rfl Tryd.underlying61 rfl Tryd.sizeOf3 rfl (s_ld rfl (hC41.cells.at 0 rfl) Tryd.isAgg3 rfl (s_mv rfl rfl (s_eql rfl rfl rfl (Reg.nil (cw_cond rfl (fun hc42 => ?_) (fun hc42 => ?_)))))))))
   ·replace h16 := cdT hc42 h16
    refine cw_seq (cw_regF (s_lda rfl hC41.cells Tryd.isAgg61 rfl Tryd.sizeOf61 rfl (y_st 0 hI40 rfl rfl rfl rfl Tryd.sizeOf61 rfl rfl (on8 rfl rfl rfl rfl rfl rfl rfl rfl) ?_)))
    intro w43 hI44 x45
    refine s_as rfl rfl (Reg.nil (cw_ret ?_))
    obtain rfl := Option.some.inj h16
    obtain rfl := hR17 _ rfl
    replace h := elimR h
    obtain ⟨rfl, rfl⟩ := inj2 h
    refine fin_any Tryd.results33 (AllRs.cons (RsOk.agg rfl (hI44.row 0 rfl).rd.cells Tryd.isAgg61 rfl Tryd.sizeOf61) (AllRs.cons (RsOk.tmp rfl) (AllRs.nil))) rfl ?_
    exact ⟨rfl, r25, r26, r27, r28, r29, r30, r31, r32, hI44.kp⟩
   replace h16 := cdF hc42 h16
   refine cw_skip (cw_regF ?_)
   obtain ⟨n46, hn46, h16⟩ := bnd h16
   replace hn46 := chk_out hn46
   refine p_add rfl rfl rfl hn46 (s_mv rfl rfl (Reg.nil ?_))
   obtain rfl := Option.some.inj h16
   refine ⟨rfl, n46, ⟨⟨hI40, (hA14.trans (x36.trans (x39.trans (hI38.eraseH 0)))), hn46.2⟩, rfl⟩, sb5 rfl rfl rfl rfl rfl⟩
  replace h16 := cdF hc18 h16
  refine cw_exit (exB_same ?_)
  obtain rfl := Option.some.inj h16
  obtain rfl := hR17 _ rfl
  refine ⟨rfl, (), ⟨hI13, hA14, rfl⟩, sb1 rfl⟩
 rintro _ w7 ⟨hI8, hA9, rfl⟩
 replace h := elimL h
 refine cw_seq (cw_regF ?_)
 refine s_bd [(0, 1), (1, 1), (2, 1), (3, 1), (4, 1), (5, 1), (6, 1), (7, 1)] Tryd.zeroValue61 rfl Tryd.underlying61 (fun _ => by simp [Tryd.sizeOf3, Tryd.sizeOf5]) rfl (Cls.nil) rfl rfl ?_
 refine y_st 0 hI8 rfl rfl rfl rfl Tryd.sizeOf61 rfl rfl (on8 rfl rfl rfl rfl rfl rfl rfl rfl) ?_
 intro w47 hI48 x49
 refine s_as rfl rfl (Reg.nil (cw_ret ?_))
 obtain ⟨rfl, rfl⟩ := inj2 h
 refine fin_any Tryd.results33 (AllRs.cons (RsOk.agg rfl (hI48.row 0 rfl).rd.cells Tryd.isAgg61 rfl Tryd.sizeOf61) (AllRs.cons (RsOk.tmp rfl) (AllRs.nil))) rfl ?_
 exact ⟨rfl, (show InK .i64 0 by decide), (show InK .i64 0 by decide), (show InK .i64 0 by decide), (show InK .i64 0 by decide), (show InK .i64 0 by decide), (show InK .u8 0 by decide), (show InK .i64 0 by decide), (show InK .i64 0 by decide), hI48.kp⟩
noncomputable def P.law03_things (s : State) : Option ((List Told) × (List Int)) :=
  some (([(Told.mk s.opened.known s.opened.cents s.opened.since s.opened.by_), (Told.mk s.limit.known s.limit.cents s.limit.since s.limit.by_), (Told.mk s.owed.known s.owed.cents s.owed.since s.owed.by_), (Told.mk s.late.known s.late.cents s.late.since s.late.by_), (Told.mk s.default.known s.default.cents s.default.since s.default.by_), (Told.mk s.closed.known s.closed.cents s.closed.since s.closed.by_)] : List Told), ([1, 2, 3, 5, 6, 7] : List Int))
theorem C_law03_things {M : List Nat} {w : World} (hM : MLt M w) {s : State} {v_s_3 : Value} {v_s_7 : Value} {v_s_11 : Value} {v_s_15 : Value} {v_s_19 : Value} {v_s_23 : Value} (f_s_0 : InK .u8 s.opened.known) (f_s_1 : InK .i64 s.opened.cents) (f_s_2 : InK .i64 s.opened.since) (f_s_3 : RdS (intE .i64) M w v_s_3 s.opened.by_) (f_s_4 : InK .u8 s.limit.known) (f_s_5 : InK .i64 s.limit.cents) (f_s_6 : InK .i64 s.limit.since) (f_s_7 : RdS (intE .i64) M w v_s_7 s.limit.by_) (f_s_8 : InK .u8 s.owed.known) (f_s_9 : InK .i64 s.owed.cents) (f_s_10 : InK .i64 s.owed.since) (f_s_11 : RdS (intE .i64) M w v_s_11 s.owed.by_) (f_s_12 : InK .u8 s.late.known) (f_s_13 : InK .i64 s.late.cents) (f_s_14 : InK .i64 s.late.since) (f_s_15 : RdS (intE .i64) M w v_s_15 s.late.by_) (f_s_16 : InK .u8 s.default.known) (f_s_17 : InK .i64 s.default.cents) (f_s_18 : InK .i64 s.default.since) (f_s_19 : RdS (intE .i64) M w v_s_19 s.default.by_) (f_s_20 : InK .u8 s.closed.known) (f_s_21 : InK .i64 s.closed.cents) (f_s_22 : InK .i64 s.closed.since) (f_s_23 : RdS (intE .i64) M w v_s_23 s.closed.by_) (f_s_24 : InK .i64 s.paid.lo) (f_s_25 : InK .i64 s.paid.hi) (f_s_26 : InK .u8 s.is_) {r0 : (List Told)} {r1 : (List Int)} (h : P.law03_things s = some (r0, r1)) :
  Calls Tryd.prog 32 (List.toArray [Value.agg (List.toArray [vu s.opened.known, vi s.opened.cents, vi s.opened.since, v_s_3, vu s.limit.known, vi s.limit.cents, vi s.limit.since, v_s_7, vu s.owed.known, vi s.owed.cents, vi s.owed.since, v_s_11, vu s.late.known, vi s.late.cents, vi s.late.since, v_s_15, vu s.default.known, vi s.default.cents, vi s.default.since, v_s_19, vu s.closed.known, vi s.closed.cents, vi s.closed.since, v_s_23, vi s.paid.lo, vi s.paid.hi, vu s.is_])]) w fun e w' => ∃ v0_0 : Value, ∃ v1_0 : Value, e = .returned (Value.tuple (List.toArray [v0_0, v1_0])) ∧ (Sx.Own ToldE 38 0 M w' v0_0 r0 ∧ ∀ b ∈ ob v0_0, w.heap.size ≤ b) ∧ RdS (intE .u8) (ob v0_0 ++ M) w' v1_0 r1 ∧ Ext w w' := by
 have hI := Hp.start (Mu := []) hM
 refine calls_cw Tryd.func32 rfl Tryd.ntmps32 rfl ?_
 refine cw_seq (cw_regF (y_box hI rfl rfl rfl ?_))
 intro b1 w2 hI3 x4
 have hC6 := hI3.freezeRow 0 rfl
 have hI5 := hI3.erase 0
 refine s_as rfl rfl (s_as rfl rfl (Reg.nil (cw_seq (cw_regF (s_fa rfl Tryd.underlying42 rfl Tryd.sizeOf38 rfl (s_lda rfl (Cells.sub hC6.cells 0 4) Tryd.isAgg38 rfl Tryd.sizeOf38 rfl (s_fa rfl Tryd.underlying42 rfl Tryd.sizeOf38 rfl (s_lda rfl (Cells.sub hC6.cells 4 4) Tryd.isAgg38 rfl Tryd.sizeOf38 rfl (s_fa rfl Tryd.underlying42 rfl Tryd.sizeOf38 rfl (s_lda rfl (Cells.sub hC6.cells 8 4) Tryd.isAgg38 rfl Tryd.sizeOf38 rfl (s_fa rfl Tryd.underlying42 rfl Tryd.sizeOf38 rfl ?_)))))))))))
 refine s_lda rfl (Cells.sub hC6.cells 12 4) Tryd.isAgg38 rfl Tryd.sizeOf38 rfl (s_fa rfl Tryd.underlying42 rfl Tryd.sizeOf38 rfl (s_lda rfl (Cells.sub hC6.cells 16 4) Tryd.isAgg38 rfl Tryd.sizeOf38 rfl (s_fa rfl Tryd.underlying42 rfl Tryd.sizeOf38 rfl (s_lda rfl (Cells.sub hC6.cells 20 4) Tryd.isAgg38 rfl Tryd.sizeOf38 rfl (y_bs (E := ToldE) (xs := [(Told.mk s.opened.known s.opened.cents s.opened.since s.opened.by_), (Told.mk s.limit.known s.limit.cents s.limit.since s.limit.by_), (Told.mk s.owed.known s.owed.cents s.owed.since s.owed.by_), (Told.mk s.late.known s.late.cents s.late.since s.late.by_), (Told.mk s.default.known s.default.cents s.default.since s.default.by_), (Told.mk s.closed.known s.closed.cents s.closed.since s.closed.by_)]) sl70 hI5 rfl rfl (Cls.cons rfl (Cls.cons rfl (Cls.cons rfl (Cls.cons rfl (Cls.cons rfl (Cls.cons rfl Cls.nil)))))) (Chs.cons ((ToldE_R (x := (Told.mk s.opened.known s.opened.cents s.opened.since s.opened.by_))).2 ⟨_, rfl, f_s_0, f_s_1, f_s_2, (f_s_3.adv hI5.adv)⟩) (Chs.cons ((ToldE_R (x := (Told.mk s.limit.known s.limit.cents s.limit.since s.limit.by_))).2 ⟨_, rfl, f_s_4, f_s_5, f_s_6, (f_s_7.adv hI5.adv)⟩) (Chs.cons ((ToldE_R (x := (Told.mk s.owed.known s.owed.cents s.owed.since s.owed.by_))).2 ⟨_, rfl, f_s_8, f_s_9, f_s_10, (f_s_11.adv hI5.adv)⟩) (Chs.cons ((ToldE_R (x := (Told.mk s.late.known s.late.cents s.late.since s.late.by_))).2 ⟨_, rfl, f_s_12, f_s_13, f_s_14, (f_s_15.adv hI5.adv)⟩) (Chs.cons ((ToldE_R (x := (Told.mk s.default.known s.default.cents s.default.since s.default.by_))).2 ⟨_, rfl, f_s_16, f_s_17, f_s_18, (f_s_19.adv hI5.adv)⟩) (Chs.cons ((ToldE_R (x := (Told.mk s.closed.known s.closed.cents s.closed.since s.closed.by_))).2 ⟨_, rfl, f_s_20, f_s_21, f_s_22, (f_s_23.adv hI5.adv)⟩) Chs.nil)))))) rfl rfl ?_)))))
 intro v7 w8 hI9 x10
 refine y_bs (E := (intE .u8)) (xs := [1, 2, 3, 5, 6, 7]) sl71 hI9 rfl rfl (Cls.cons rfl (Cls.cons rfl (Cls.cons rfl (Cls.cons rfl (Cls.cons rfl (Cls.cons rfl Cls.nil)))))) (Chs.cons ⟨rfl, (by decide)⟩ (Chs.cons ⟨rfl, (by decide)⟩ (Chs.cons ⟨rfl, (by decide)⟩ (Chs.cons ⟨rfl, (by decide)⟩ (Chs.cons ⟨rfl, (by decide)⟩ (Chs.cons ⟨rfl, (by decide)⟩ Chs.nil)))))) rfl rfl ?_
 intro v11 w12 hI13 x14
 refine s_as rfl rfl (s_as rfl rfl (Reg.nil (cw_ret ?_)))
 obtain ⟨rfl, rfl⟩ := inj2 h
 have hf15 := hI13.freeze 0 rfl
 have hI16 := hI13.erase 0
 refine fin2 Tryd.results32 rfl rfl ?_
 exact ⟨_, _, rfl, (hI16.ownOut 0 rfl), (hf15.adv (hI16.outH 0 rfl)), hI16.kp⟩
end Go.Proofs.YtepjkmoipjeghaaDoor
namespace Go.Proofs.YtepjkmoipjeghaaDoor
open Go Go.Sx
namespace S
def ex9 : List Report := [⟨1, 70, 5, 10, 8, 1, 0, 0⟩, ⟨2, 70, 5, 20, 15, 3, 500, 0⟩, ⟨3, 80, 5, 21, 15, 3, 520, 0⟩, ⟨4, 70, 5, 30, 29, 5, 35, 0⟩, ⟨5, 70, 5, 40, 15, 8, 520, 2⟩, ⟨6, 70, 5, 41, 0, 9, 0, 4⟩, ⟨7, 70, 5, 50, 45, 4, 100, 0⟩, ⟨8, 80, 5, 50, 45, 4, 100, 0⟩, ⟨9, 80, 5, 51, 45, 4, 30, 0⟩]
theorem p_reports : P.law03_reports = some ex9 := rfl
theorem ex9_v : ∀ r ∈ ex9, V r := by
  intro r hr
  simp only [ex9, List.mem_cons, List.mem_nil_iff, or_false] at hr
  rcases hr with rfl | rfl | rfl | rfl | rfl | rfl | rfl | rfl | rfl <;> simp [V, most]
theorem ex9_nd : (ex9.map (·.id)).Nodup := by simp [ex9]
theorem ex9_in : ∀ r ∈ ex9, InR r := fun r hr => (ex9_v r hr).inR
theorem ex9_chk : chkE ex9 = 0 := chk_ok (by simp [ex9]) ex9_v (cons_nd ex9_nd)
def kn9 (known : Int) : List Report := ex9.filter fun r => decide (r.made ≤ known)
theorem ex9_fc {known : Int} {F : List Report} (e : TB (kn9 known) = F) (hs : F.Pairwise le) : Fc ex9 known F := by
  subst e; exact fc_B ex9_v ex9_nd (by simp [ex9]) hs
def g1 : Report := ⟨1, 70, 5, 10, 8, 1, 0, 0⟩
def g2 : Report := ⟨2, 70, 5, 20, 15, 3, 500, 0⟩
def g2' : Report := ⟨2, 70, 5, 20, 15, 3, 520, 0⟩
def g3 : Report := ⟨3, 80, 5, 21, 15, 3, 520, 0⟩
def g4 : Report := ⟨4, 70, 5, 30, 29, 5, 35, 0⟩
def g7 : Report := ⟨7, 70, 5, 50, 45, 4, 100, 0⟩
def g8 : Report := ⟨8, 80, 5, 50, 45, 4, 100, 0⟩
def g9 : Report := ⟨9, 80, 5, 51, 45, 4, 30, 0⟩
theorem fc25 : Fc ex9 25 [g1, g2, g3] := ex9_fc (by kernel_rfl) (by decide)
theorem fc35 : Fc ex9 35 [g1, g2, g3, g4] := ex9_fc (by kernel_rfl) (by decide)
theorem fc45 : Fc ex9 45 [g1, g2', g3] := ex9_fc (by kernel_rfl) (by decide)
theorem fc60 : Fc ex9 60 [g1, g2', g3, g7, g8, g9] := ex9_fc (by kernel_rfl) (by decide)
theorem kw9 (known : Int) : Kw ex9 known (kn9 known) := ⟨fun r => by unfold kn9; rw [List.mem_filter, decide_eq_true_eq], fun r hr => ex9_v r (List.mem_filter.1 hr).1, (List.filter_sublist.map _).nodup ex9_nd, Nat.le_trans (List.length_filter_le _ _) (by simp [ex9])⟩
theorem told_ids {o : Bool} {f : Report} {r : List Report} (h : ((f :: r).map (·.id)).Pairwise (· ≤ ·)) : told o (f :: r) = if (f :: r).all (ag o f) then ⟨2, f.cents, f.about, (f :: r).map (·.id)⟩ else ⟨1, 0, f.about, (f :: r).map (·.id)⟩ := by
  rw [told_cons, sid_eq h]
theorem t1 : told true [g1] = ⟨2, 0, 8, [1]⟩ := by rw [told_ids (by decide)]; rfl
theorem t23 : told false [g2, g3] = ⟨1, 0, 15, [2, 3]⟩ := by rw [told_ids (by decide)]; rfl
theorem t23' : told false [g2', g3] = ⟨2, 520, 15, [2, 3]⟩ := by rw [told_ids (by decide)]; rfl
theorem t4 : told false [g4] = ⟨2, 35, 29, [4]⟩ := by rw [told_ids (by decide)]; rfl
theorem pay0 {F : List Report} (h : fk F 4 = []) : payF F = ⟨0, 0⟩ := by unfold payF; rw [h]; rfl
theorem pd789 : pd [g7, g8, g9] 45 = ⟨100, 130⟩ := pd_is ⟨⟨g7, by simp [grp, g7, g8, g9], by decide⟩, ⟨g8, by simp [grp, g7, g8, g9], by decide⟩, fun r hr => by
  have : r = g7 ∨ r = g8 ∨ r = g9 := by simpa [grp, g7, g8, g9] using hr
  rcases this with rfl | rfl | rfl <;> decide⟩
theorem st25 : stF (List.filter (ofA 5 20) [g1, g2, g3]) = ⟨⟨2, 0, 8, [1]⟩, t0, ⟨1, 0, 15, [2, 3]⟩, t0, t0, t0, ⟨0, 0⟩, 1⟩ := by
  have e : List.filter (ofA 5 20) [g1, g2, g3] = [g1, g2, g3] := rfl
  rw [e]; unfold stF
  have e1 : fk [g1, g2, g3] 1 = [g1] := rfl
  have e2 : fk [g1, g2, g3] 2 = [] := rfl
  have e3 : fk [g1, g2, g3] 3 = [g2, g3] := rfl
  have e4 : fk [g1, g2, g3] 4 = [] := rfl
  have e5 : fk [g1, g2, g3] 5 = [] := rfl
  have e6 : fk [g1, g2, g3] 6 = [] := rfl
  have e7 : fk [g1, g2, g3] 7 = [] := rfl
  have l3 : lastT [g2, g3] = ⟨1, 0, 15, [2, 3]⟩ := t23
  rw [pay0 e4, e1, e2, e3, e5, e6, e7, t1, l3]; rfl
theorem st35 : stF (List.filter (ofA 5 30) [g1, g2, g3, g4]) = ⟨⟨2, 0, 8, [1]⟩, t0, ⟨1, 0, 15, [2, 3]⟩, ⟨2, 35, 29, [4]⟩, t0, t0, ⟨0, 0⟩, 2⟩ := by
  have e : List.filter (ofA 5 30) [g1, g2, g3, g4] = [g1, g2, g3, g4] := rfl
  rw [e]; unfold stF
  have e1 : fk [g1, g2, g3, g4] 1 = [g1] := rfl
  have e2 : fk [g1, g2, g3, g4] 2 = [] := rfl
  have e3 : fk [g1, g2, g3, g4] 3 = [g2, g3] := rfl
  have e4 : fk [g1, g2, g3, g4] 4 = [] := rfl
  have e5 : fk [g1, g2, g3, g4] 5 = [g4] := rfl
  have e6 : fk [g1, g2, g3, g4] 6 = [] := rfl
  have e7 : fk [g1, g2, g3, g4] 7 = [] := rfl
  have l3 : lastT [g2, g3] = ⟨1, 0, 15, [2, 3]⟩ := t23
  have l4 : lastT [g4] = ⟨2, 35, 29, [4]⟩ := t4
  rw [pay0 e4, e1, e2, e3, e5, e6, e7, t1, l3, l4]; rfl
theorem st60 : stF (List.filter (ofA 5 60) [g1, g2', g3, g7, g8, g9]) = ⟨⟨2, 0, 8, [1]⟩, t0, ⟨2, 520, 15, [2, 3]⟩, t0, t0, t0, ⟨100, 130⟩, 1⟩ := by
  have e : List.filter (ofA 5 60) [g1, g2', g3, g7, g8, g9] = [g1, g2', g3, g7, g8, g9] := rfl
  rw [e]; unfold stF
  have e1 : fk [g1, g2', g3, g7, g8, g9] 1 = [g1] := rfl
  have e2 : fk [g1, g2', g3, g7, g8, g9] 2 = [] := rfl
  have e3 : fk [g1, g2', g3, g7, g8, g9] 3 = [g2', g3] := rfl
  have e4 : fk [g1, g2', g3, g7, g8, g9] 4 = [g7, g8, g9] := rfl
  have e5 : fk [g1, g2', g3, g7, g8, g9] 5 = [] := rfl
  have e6 : fk [g1, g2', g3, g7, g8, g9] 6 = [] := rfl
  have e7 : fk [g1, g2', g3, g7, g8, g9] 7 = [] := rfl
  have l3 : lastT [g2', g3] = ⟨2, 520, 15, [2, 3]⟩ := t23'
  have p4 : payF [g1, g2', g3, g7, g8, g9] = ⟨100, 130⟩ := by
    unfold payF; rw [e4]
    have d : dl [g7, g8, g9] = [45] := rfl
    rw [d]; simp only [List.map_cons, List.map_nil, pd789]; rfl
  rw [p4, e1, e2, e3, e5, e6, e7, t1, l3]; rfl
theorem clash_no {F : List Report} {k : Int} {o : Bool} {f : Report} {r : List Report} (hk : k ≠ 4) (h : (told o (f :: r)).known ≠ 1) : clash F k o (f :: r) = [] := by
  show (if (if k = 4 then _ else _) then _ else _) = _
  rw [if_neg (by rw [if_neg hk]; exact h)]
theorem clash_pay {F : List Report} {o : Bool} {f : Report} {r : List Report} (h : (pd (fk F 4) f.about).lo ≠ (pd (fk F 4) f.about).hi) : clash F 4 o (f :: r) = [⟨4, f.about, sid (f :: r)⟩] := by
  show (if (if (4 : Int) = 4 then _ else _) then _ else _) = _
  rw [if_pos (by rw [if_pos rfl]; exact h)]
theorem cl60 : clF (List.filter (ofA 5 100000) [g1, g2', g3, g7, g8, g9]) = [⟨4, 45, [7, 8, 9]⟩] := by
  have e : List.filter (ofA 5 100000) [g1, g2', g3, g7, g8, g9] = [g1, g2', g3, g7, g8, g9] := rfl
  rw [e]
  have k7 : ks 7 = [1, 2, 3, 4, 5, 6, 7] := rfl
  have s789 : sid [g7, g8, g9] = [7, 8, 9] := sid_eq (by decide)
  have c1 : clK [g1, g2', g3, g7, g8, g9] 1 = [] := by
    have e1 : fk [g1, g2', g3, g7, g8, g9] 1 = [g1] := rfl
    unfold clK; rw [e1, if_pos (by decide)]; rw [clash_no (by decide) (by rw [t1]; decide)]
  have c2 : clK [g1, g2', g3, g7, g8, g9] 2 = [] := by
    have e1 : fk [g1, g2', g3, g7, g8, g9] 2 = [] := rfl
    unfold clK; rw [e1, if_neg (by decide)]; rfl
  have c3 : clK [g1, g2', g3, g7, g8, g9] 3 = [] := by
    have e1 : fk [g1, g2', g3, g7, g8, g9] 3 = [g2', g3] := rfl
    have e2 : dl [g2', g3] = [15] := rfl
    have e3 : grp [g2', g3] 15 = [g2', g3] := rfl
    unfold clK; rw [e1, if_neg (by decide), e2]; simp only [List.flatMap_cons, List.flatMap_nil, List.append_nil]; rw [e3]; rw [clash_no (by decide) (by rw [t23']; decide)]
  have c4 : clK [g1, g2', g3, g7, g8, g9] 4 = [⟨4, 45, [7, 8, 9]⟩] := by
    have e1 : fk [g1, g2', g3, g7, g8, g9] 4 = [g7, g8, g9] := rfl
    have e2 : dl [g7, g8, g9] = [45] := rfl
    have e3 : grp [g7, g8, g9] 45 = [g7, g8, g9] := rfl
    unfold clK; rw [e1, if_neg (by decide), e2]; simp only [List.flatMap_cons, List.flatMap_nil, List.append_nil]; rw [e3]; rw [clash_pay (by rw [e1]; show (pd [g7, g8, g9] 45).lo ≠ (pd [g7, g8, g9] 45).hi; rw [pd789]; decide), s789]; rfl
  have c5 : clK [g1, g2', g3, g7, g8, g9] 5 = [] := by
    have e1 : fk [g1, g2', g3, g7, g8, g9] 5 = [] := rfl
    unfold clK; rw [e1, if_neg (by decide)]; rfl
  have c6 : clK [g1, g2', g3, g7, g8, g9] 6 = [] := by
    have e1 : fk [g1, g2', g3, g7, g8, g9] 6 = [] := rfl
    unfold clK; rw [e1, if_pos (by decide)]; rfl
  have c7 : clK [g1, g2', g3, g7, g8, g9] 7 = [] := by
    have e1 : fk [g1, g2', g3, g7, g8, g9] 7 = [] := rfl
    unfold clK; rw [e1, if_pos (by decide)]; rfl
  unfold clF; rw [k7]; simp only [List.flatMap_cons, List.flatMap_nil, c1, c2, c3, c4, c5, c6, c7, List.nil_append, List.append_nil]
theorem ft45 : ftOf (kn9 45) 4 = (2, 6, 0) := by
  have hK := (kw9 45).ok
  have h4 : g4 ∈ kn9 45 := by simp [kn9, ex9, g4]
  have hw : wd (kn9 45) 4 = some 6 := wd_is ⟨⟨6, 70, 5, 41, 0, 9, 0, 4⟩, by simp [kn9, ex9], (wdB_iff (by simp [kn9, ex9])).1 (by kernel_rfl), rfl, fun s hs hw => by
    have hb := (wdB_iff hs).2 hw
    have : s = g1 ∨ s = g2 ∨ s = g3 ∨ s = g4 ∨ s = ⟨5, 70, 5, 40, 15, 8, 520, 2⟩ ∨ s = ⟨6, 70, 5, 41, 0, 9, 0, 4⟩ := by simpa [kn9, ex9, g1, g2, g3, g4] using hs
    have h9 := hw.2.1
    rcases this with rfl | rfl | rfl | rfl | rfl | rfl <;> first | exact absurd h9 (by decide) | exact Int.le_refl _⟩
  have ha : atI (kn9 45) 4 = some g4 := atI_some hK h4
  unfold ftOf; rw [ha]; dsimp only
  rw [if_neg (by decide), hw]
theorem p_told {k c s : Int} {b : List Int} : P.law03_told k c s b = some ⟨k, c, s, b⟩ := rfl
theorem alive_is : P.law03_alive = some true := by
  apply Ret.yes
  unfold P.law03_alive
  rw [p_reports]
  refine Ret.bind (Ret.ok (Ret.bind (r_State1 ex9_in ex9_chk rfl fun F hF => ?_)))
  obtain rfl := hF.uniq fc25 fun _ => Iff.rfl
  rw [st25]; dsimp only
  refine Ret.bind (Ret.ok (Ret.bind (r_State1 ex9_in ex9_chk rfl fun F hF => ?_)))
  obtain rfl := hF.uniq fc35 fun _ => Iff.rfl
  rw [st35]; dsimp only
  refine Ret.bind (Ret.ok (Ret.bind (r_State1 ex9_in ex9_chk rfl fun F hF => ?_)))
  obtain rfl := hF.uniq fc60 fun _ => Iff.rfl
  rw [st60]; dsimp only
  refine Ret.bind (Ret.ok (Ret.bind (r_Fate1 ex9_in ex9_chk rfl fun K hK => ?_)))
  rw [ftOf_pm hK.ok (kw9 45).ok (hK.perm (kw9 45)), ft45]; dsimp only
  refine Ret.bind (Ret.ok (Ret.bind (r_Clashes1 ex9_in ex9_chk rfl fun F hF => ?_)))
  obtain rfl := hF.uniq fc60 fun _ => Iff.rfl
  rw [cl60]; dsimp only
  refine Ret.bind (Ret.ok (Ret.bind (r_Standing1 ex9_in ex9_chk rfl fun F hF => ?_)))
  obtain rfl := hF.uniq fc45 fun _ => Iff.rfl
  dsimp only
  simp only [p_told]
  have few {s : State} (h : s.opened.by_.length + s.limit.by_.length + s.owed.by_.length + s.late.by_.length + s.default.by_.length + s.closed.by_.length ≤ 100) : Few s := by
    refine ⟨?_, ?_, ?_, ?_, ?_, ?_⟩ <;> omega
  refine Ret.bind (Ret.ok ?_)
  refine Ret.bind ?_
  refine Ret.condT rfl (Ret.bind (Ret.ok ?_))
  refine Ret.bind (Ret.val (r_sameS (few (by decide))) ?_)
  refine Ret.condT rfl (Ret.condT rfl (Ret.bind (Ret.ok (Ret.bind (Ret.ok ?_)))))
  refine Ret.bind (Ret.val (r_sameS (few (by decide))) ?_)
  refine Ret.condT rfl (Ret.condT rfl (Ret.bind (Ret.ok ?_)))
  refine Ret.bind (Ret.val (r_sameS (few (by decide))) ?_)
  refine Ret.condT rfl (Ret.condT rfl (Ret.condT rfl (Ret.condT rfl (Ret.condT rfl ?_))))
  refine Ret.bind (Ret.val (r_sameC (by decide) (by decide)) ?_)
  refine Ret.condT rfl (Ret.condT rfl (Ret.condT rfl ?_))
  refine Ret.bind (Ret.ok ?_)
  refine Ret.bind (Ret.ok ?_)
  exact Ret.ok (Ret.ok rfl)
end S
end Go.Proofs.YtepjkmoipjeghaaDoor
namespace Go.Proofs.YtepjkmoipjeghaaDoor
open Go Go.Sx
namespace S
section
variable {l : List Report} (hin : ∀ r ∈ l, InR r)
include hin
theorem r_ready {id : Int} {days : List Int} (hl : days.length ≤ 1000000) {Q : Bool → Prop} (hF : Q false) (hT : chkE l = 0 → inB 0 999999 id = true → (∀ d ∈ days, inB 0 100000 d = true) → Q true) : Ret (P.law03_ready l id days) Q := by
  unfold P.law03_ready
  refine Ret.bind (Ret.cond (fun _ => Ret.ok (Ret.condT rfl (Ret.ok hF))) fun h0 => ?_)
  refine Ret.bind (r_rcheck hin ?_)
  refine Ret.cond (fun _ => Ret.ok (Ret.condT rfl (Ret.ok hF))) fun h1 => ?_
  refine Ret.cond (fun _ => Ret.ok (Ret.condT rfl (Ret.ok hF))) fun h2 => ?_
  refine Ret.ok (Ret.cond (fun _ => Ret.ok hF) fun h3 => ?_)
  have c : chkE l = 0 := by simpa using h1
  have hid : inB 0 999999 id = true := by
    have h2 := of_decide_eq_false h2
    have h3 := of_decide_eq_false h3
    exact decide_eq_true ⟨by omega, by omega⟩
  refine Ret.bind (Ret.loop (fun t : Int => ∃ n : Nat, t = n ∧ n ≤ days.length ∧ ∀ d ∈ days.take n, inB 0 100000 d = true) (fun t => days.length - t.toNat) ⟨0, rfl, Nat.zero_le _, fun a ha => by simp at ha⟩ ?_)
  rintro _ ⟨n, rfl, hn, hv⟩
  refine Ret.cond (fun h => ?_) fun h => ?_
  · have hlt : n < days.length := by have := of_decide_eq_true h; omega
    refine Ret.bind (Ret.ixo (List.getElem?_eq_getElem hlt) ?_)
    refine Ret.bind (Ret.cond (fun _ => Ret.ok (Ret.condT rfl (Ret.done (Ret.elimR (Ret.ok hF))))) fun e => ?_)
    refine Ret.ok (Ret.cond (fun _ => Ret.done (Ret.elimR (Ret.ok hF))) fun e2 => ?_)
    refine Ret.bind (Ret.chk (by omega) (Ret.next ⟨⟨n + 1, by omega, by omega, fun d hd => ?_⟩, by omega⟩))
    rw [take_snoc hlt, List.mem_append] at hd
    rcases hd with hd | hd
    · exact hv d hd
    · obtain rfl : d = days[n] := by simpa using hd
      have e := of_decide_eq_false e
      have e2 := of_decide_eq_false e2
      exact decide_eq_true ⟨by omega, by omega⟩
  · have hge : n = days.length := by have := of_decide_eq_false h; omega
    subst hge
    rw [List.take_length] at hv
    exact Ret.done (Ret.elimL (Ret.ok (hT c hid hv)))
end
theorem in3 {id day known : Int} (h1 : inB 0 999999 id = true) (h2 : ∀ d ∈ [day, known], inB 0 100000 d = true) : (inB 0 999999 id && (inB 0 100000 day && inB 0 100000 known)) = true := by
  rw [h1, h2 day (by simp), h2 known (by simp)]; rfl
theorem r_find {l : List Report} (hl : l.length ≤ 1000000) {i : Int} {Q : Report × Bool → Prop} (h1 : ∀ r ∈ l, r.id = i → Q (r, true)) (h2 : (∀ r ∈ l, r.id ≠ i) → ∀ r, Q (r, false)) : Ret (P.law03_find l i) Q := by
  unfold P.law03_find
  refine Ret.bind (Ret.loop (fun t : Int => ∃ n : Nat, t = n ∧ n ≤ l.length ∧ ∀ r ∈ l.take n, r.id ≠ i) (fun t => l.length - t.toNat) ⟨0, rfl, Nat.zero_le _, fun a ha => by simp at ha⟩ ?_)
  rintro _ ⟨n, rfl, hn, hv⟩
  refine Ret.cond (fun h => ?_) fun h => ?_
  · have hlt : n < l.length := by have := of_decide_eq_true h; omega
    refine Ret.bind (Ret.ixo (List.getElem?_eq_getElem hlt) ?_)
    refine Ret.cond (fun e => ?_) fun e => ?_
    · exact Ret.done (Ret.elimR (Ret.ok (h1 _ (List.getElem_mem hlt) (of_decide_eq_true e))))
    · refine Ret.bind (Ret.chk (by omega) (Ret.next ⟨⟨n + 1, by omega, by omega, fun r hr => ?_⟩, by omega⟩))
      rw [take_mem hlt] at hr
      rcases hr with hr | rfl
      · exact hv r hr
      · exact of_decide_eq_false e
  · have hge : n = l.length := by have := of_decide_eq_false h; omega
    subst hge
    rw [List.take_length] at hv
    exact Ret.done (Ret.elimL (Ret.ok (h2 hv _)))
end S
end Go.Proofs.YtepjkmoipjeghaaDoor
namespace Go.Proofs.YtepjkmoipjeghaaDoor
open Go Go.Sx
namespace S
section
variable {K K' : List Report} (hK : Ok K) (hK' : Ok K') {q : Report → Prop} (hm : ∀ x, x ∈ K' ↔ x ∈ K ∧ q x)
include hK hK' hm
omit hK' in
theorem Wd_sub {t x : Report} (ht : t ∈ K') (hx : x ∈ K') : Wd K t.id x ↔ Wd K' t.id x := by
  constructor
  · rintro ⟨_, h1, h2, o, ha, ho⟩
    obtain rfl : o = t := hK.one ha.1 ((hm t).1 ht).1 (by rw [ha.2.1, h2])
    exact ⟨hx, h1, h2, o, ⟨ht, ha.2⟩, ho⟩
  · rintro ⟨_, h1, h2, o, ha, ho⟩
    exact ⟨((hm x).1 hx).1, h1, h2, o, ⟨((hm o).1 ha.1).1, ha.2⟩, ho⟩
omit hK' in
theorem WdR_sub {t : Report} (ht : t ∈ K') (h : ∀ x ∈ K, ¬ q x → ¬ Wd K t.id x) : WdR K t.id none ↔ WdR K' t.id none := by
  constructor
  · intro hw x hx hd; exact hw x ((hm x).1 hx).1 ((Wd_sub hK hm ht hx).2 hd)
  · intro hw x hx hd
    by_cases hq : q x
    · exact hw x ((hm x).2 ⟨hx, hq⟩) ((Wd_sub hK hm ht ((hm x).2 ⟨hx, hq⟩)).1 hd)
    · exact h x hx hq hd
section
variable {o : Report} (ho : o ∈ K) (qo : q o) (w' : ∀ c ∈ K, q c → c.kind = 8 → Aim K c o → ∀ x ∈ K, ¬ q x → ¬ Wd K c.id x)
include ho qo w'
omit hK' in
theorem Co_sub {c : Report} (hc : c ∈ K') : Co K o c ↔ Co K' o c := by
  have ho' : o ∈ K' := (hm o).2 ⟨ho, qo⟩
  obtain ⟨hcK, hq⟩ := (hm c).1 hc
  constructor
  · rintro ⟨h1, h2, h3, h4⟩
    exact ⟨h1, ⟨ho', h2.2⟩, h3, (WdR_sub hK hm hc (w' c hcK hq h1 h2)).1 h4⟩
  · rintro ⟨h1, h2, h3, h4⟩
    have h2' : Aim K c o := ⟨ho, h2.2⟩
    exact ⟨h1, h2', h3, (WdR_sub hK hm hc (w' c hcK hq h1 h2')).2 h4⟩
theorem best_sub (hb : ∀ x, ¬ q x → best K o ≠ some x) : best K' o = best K o := by
  have hz := best_lt hK o
  refine best_is hK' ?_
  cases hbb : best K o with
  | none =>
    rw [hbb] at hz
    intro c hc hco
    exact hz c ((hm c).1 hc).1 ((Co_sub hK hm ho qo w' hc).2 hco)
  | some c =>
    rw [hbb] at hz
    have hq : q c := by
      by_cases h : q c
      · exact h
      · exact absurd hbb (hb c h)
    have hc : c ∈ K' := (hm c).2 ⟨hz.1, hq⟩
    exact ⟨hc, (Co_sub hK hm ho qo w' hc).1 hz.2.1, fun s hs hp => hz.2.2 s ((hm s).1 hs).1 ((Co_sub hK hm ho qo w' hs).2 hp)⟩
end
/-- The facts of which A is so stand alike in a part of all, where what is left out changes none of them. -/
theorem T_sub {A : Report → Bool}
    (h0 : ∀ o ∈ K, o.kind ≤ 7 → WdR K o.id none → A (fix K o) = true → q o)
    (h1 : ∀ o ∈ K, o.kind ≤ 7 → q o → (∃ a b, A ⟨o.id, o.source, o.account, o.made, a, o.kind, b, o.of_⟩ = true) → (∀ x ∈ K, ¬ q x → ¬ Wd K o.id x) ∧ (∀ c ∈ K, q c → c.kind = 8 → Aim K c o → ∀ x ∈ K, ¬ q x → ¬ Wd K c.id x) ∧ (WdR K o.id none → ∀ x, ¬ q x → best K o ≠ some x)) : ((T K).filter A).Perm ((T K').filter A) := by
  classical
  have el : ∀ {K : List Report} {o : Report}, o ∈ K → o.kind ≤ 7 → WdR K o.id none → fix K o ∈ T K := fun {K o} ho h7 hw => by
    unfold T
    exact List.mem_map.2 ⟨o, List.mem_filter.2 ⟨ho, decide_eq_true ⟨h7, hw⟩⟩, rfl⟩
  have fx : ∀ (K : List Report) (o : Report), ∃ a b, fix K o = ⟨o.id, o.source, o.account, o.made, a, o.kind, b, o.of_⟩ := fun K o => by
    unfold fix
    cases best K o with
    | none => exact ⟨_, _, rfl⟩
    | some c => exact ⟨_, _, rfl⟩
  have eq : ∀ {o : Report}, best K' o = best K o → fix K' o = fix K o := fun {o} e => by unfold fix; rw [e]
  refine (List.perm_ext_iff_of_nodup ((nd_of (T_nd hK)).sublist List.filter_sublist) ((nd_of (T_nd hK')).sublist List.filter_sublist)).2 fun r => ?_
  rw [List.mem_filter, List.mem_filter]
  constructor
  · rintro ⟨hr, ha⟩
    obtain ⟨o, ho, h7, hw, rfl⟩ := T_el hK hr
    have qo := h0 o ho h7 hw ha
    obtain ⟨a, b, e⟩ := fx K o
    obtain ⟨g1, g2, g3⟩ := h1 o ho h7 qo ⟨a, b, e ▸ ha⟩
    have ho' := (hm o).2 ⟨ho, qo⟩
    have hb := eq (best_sub hK hK' hm ho qo g2 (g3 hw))
    exact ⟨hb ▸ el ho' h7 ((WdR_sub hK hm ho' g1).1 hw), ha⟩
  · rintro ⟨hr, ha⟩
    obtain ⟨o, ho', h7, hw', rfl⟩ := T_el hK' hr
    obtain ⟨ho, qo⟩ := (hm o).1 ho'
    obtain ⟨a, b, e⟩ := fx K' o
    obtain ⟨g1, g2, g3⟩ := h1 o ho h7 qo ⟨a, b, e ▸ ha⟩
    have hw := (WdR_sub hK hm ho' g1).2 hw'
    have hb := eq (best_sub hK hK' hm ho qo g2 (g3 hw))
    exact ⟨hb ▸ el ho h7 hw, ha⟩
end
end S
end Go.Proofs.YtepjkmoipjeghaaDoor
