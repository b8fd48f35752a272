/-
  Part AccountKnown 1 of the texts that the statement's proof stands on: what memory holds, how code is walked, what the functions reckon. In the order in which they build.
-/
import Derived.Test.YtepjkmoipjeghaaDoorProg
import Derived.Test.YtepjkmoipjeghaaDoorAe9
set_option linter.unusedVariables false
set_option linter.unusedSectionVars false
set_option maxRecDepth 20000
set_option maxHeartbeats 4000000
namespace Go.Proofs.YtepjkmoipjeghaaDoor
open Go Go.Sx Go.RowKit
noncomputable def P.law03_AccountKnown (l : (List Report)) (id : Int) (day : Int) (known : Int) (by_ : (List Int)) : Option Bool :=
  Option.bind (P.law03_alive ) fun z1 => Option.bind (Option.bind (P.law03_ready l id ([day, known] : List Int)) fun z10 => cond (!z10) (some true) (some (!z1))) fun x16 => cond x16 (some z1) (Option.bind (appo 64 ([] : List Report) l) fun l22 => Option.bind (loopM (S := (List Report) × Int × (List Report)) (R := ((List Report) × (List Report))) (fun (x27, x28, x29) => cond (decide (x28 < (l.length : Int))) (Option.bind (Option.bind (ixo l x28) fun y31 => cond (decide (y31.made ≤ known)) (Option.bind (appo 64 x27 ([(Report.mk y31.id y31.source y31.account y31.made y31.about y31.kind y31.cents y31.of_)] : List Report)) fun l61 => some (l61, x29)) (Option.bind (ixo x29 x28) fun y66 => Option.bind (P.law03_choose by_ x28) fun z80 => Option.bind (remO z80 1000) fun n86 => Option.bind (chk .i64 n86) fun n87 => Option.bind (chk .i64 (x28 + 1)) fun n88 => Option.bind (P.law03_choose by_ n88) fun z89 => Option.bind (remO z89 10) fun n95 => Option.bind (chk .i64 n95) fun n96 => Option.bind (seto x29 x28 (Report.mk y66.id n87 y66.account y66.made y66.about y66.kind y66.cents y66.of_)) fun l108 => Option.bind (seto l108 x28 (Report.mk y66.id n87 n96 y66.made y66.about y66.kind y66.cents y66.of_)) fun l123 => Option.bind (chk .i64 (known + 1)) fun n127 => Option.bind (chk .i64 (x28 + 2)) fun n128 => Option.bind (P.law03_choose by_ n128) fun z129 => Option.bind (chk .i64 z129) fun n135 => Option.bind (chk .i64 (100000 - known)) fun n136 => Option.bind (remO n135 n136) fun n137 => Option.bind (chk .i64 (n127 + n137)) fun n138 => Option.bind (seto l123 x28 (Report.mk y66.id n87 n96 n138 y66.about y66.kind y66.cents y66.of_)) fun l150 => Option.bind (cond (decide (y66.kind ≤ 7)) (Option.bind (chk .i64 (x28 + 3)) fun n166 => Option.bind (P.law03_choose by_ n166) fun z167 => Option.bind (chk .i64 z167) fun n173 => Option.bind (remO n173 100001) fun n174 => Option.bind (seto l150 x28 (Report.mk y66.id n87 n96 n138 n174 y66.kind y66.cents y66.of_)) fun l186 => some l186) (some l150)) fun x190 => some (x27, x190))) fun (x191, x192) => Option.bind (chk .i64 (x28 + 1)) fun n193 => some (.inl (x191, n193, x192))) (some (.inr (x27, x29)))) ([], 0, l22)) fun (x194, x195) => Option.bind (P.account_State l id day known) fun (z196, z197) => Option.bind (P.account_State x194 id day known) fun (z247, z248) => Option.bind (P.account_Clashes l id known) fun (z296, z297) => Option.bind (P.account_Clashes x194 id known) fun (z305, z306) => Option.bind (cond (!decide (z197 = 0)) (some true) (cond (!decide (z248 = 0)) (some true) (cond (!decide (z297 = 0)) (some true) (cond (!decide (z306 = 0)) (some true) (Option.bind (P.ref03_SameState (State.mk (Told.mk z196.opened.known z196.opened.cents z196.opened.since z196.opened.by_) (Told.mk z196.limit.known z196.limit.cents z196.limit.since z196.limit.by_) (Told.mk z196.owed.known z196.owed.cents z196.owed.since z196.owed.by_) (Told.mk z196.late.known z196.late.cents z196.late.since z196.late.by_) (Told.mk z196.default.known z196.default.cents z196.default.since z196.default.by_) (Told.mk z196.closed.known z196.closed.cents z196.closed.since z196.closed.by_) (Span.mk z196.paid.lo z196.paid.hi) z196.is_) (State.mk (Told.mk z247.opened.known z247.opened.cents z247.opened.since z247.opened.by_) (Told.mk z247.limit.known z247.limit.cents z247.limit.since z247.limit.by_) (Told.mk z247.owed.known z247.owed.cents z247.owed.since z247.owed.by_) (Told.mk z247.late.known z247.late.cents z247.late.since z247.late.by_) (Told.mk z247.default.known z247.default.cents z247.default.since z247.default.by_) (Told.mk z247.closed.known z247.closed.cents z247.closed.since z247.closed.by_) (Span.mk z247.paid.lo z247.paid.hi) z247.is_)) fun z318 => cond (!z318) (some true) (Option.bind (P.ref03_SameClashes z296 z305) fun z324 => some (!z324))))))) fun x329 => cond x329 (some false) (Option.bind (P.account_Standing l known) fun (z331, z332) => cond (!decide (z332 = 0)) (some false) (Option.bind (loopM (S := (List Report) × Int) (R := ((List Report))) (fun (x341, x342) => cond (decide (x342 < (z331.length : Int))) (Option.bind (Option.bind (ixo z331 x342) fun y344 => Option.bind (cond (decide (y344.about ≤ day)) (some (decide (y344.account = id))) (some false)) fun x368 => Option.bind (cond x368 (Option.bind (appo 64 x341 ([(Report.mk y344.id y344.source y344.account y344.made y344.about y344.kind y344.cents y344.of_)] : List Report)) fun l376 => some l376) (some x341)) fun x381 => some x381) fun x382 => Option.bind (chk .i64 (x342 + 1)) fun n383 => some (.inl (x382, n383))) (some (.inr x341))) ([], 0)) fun x384 => Option.bind (P.account_State x384 id day known) fun (z387, z388) => Option.bind (cond (!decide (z388 = 0)) (some true) (Option.bind (P.ref03_SameState (State.mk (Told.mk z196.opened.known z196.opened.cents z196.opened.since z196.opened.by_) (Told.mk z196.limit.known z196.limit.cents z196.limit.since z196.limit.by_) (Told.mk z196.owed.known z196.owed.cents z196.owed.since z196.owed.by_) (Told.mk z196.late.known z196.late.cents z196.late.since z196.late.by_) (Told.mk z196.default.known z196.default.cents z196.default.since z196.default.by_) (Told.mk z196.closed.known z196.closed.cents z196.closed.since z196.closed.by_) (Span.mk z196.paid.lo z196.paid.hi) z196.is_) (State.mk (Told.mk z387.opened.known z387.opened.cents z387.opened.since z387.opened.by_) (Told.mk z387.limit.known z387.limit.cents z387.limit.since z387.limit.by_) (Told.mk z387.owed.known z387.owed.cents z387.owed.since z387.owed.by_) (Told.mk z387.late.known z387.late.cents z387.late.since z387.late.by_) (Told.mk z387.default.known z387.default.cents z387.default.since z387.default.by_) (Told.mk z387.closed.known z387.closed.cents z387.closed.since z387.closed.by_) (Span.mk z387.paid.lo z387.paid.hi) z387.is_)) fun z437 => some (!z437))) fun x442 => cond x442 (some false) (Option.bind (P.ref03_Check x195) fun z444 => cond (!decide (z444 = 0)) (some z1) (Option.bind (P.account_State x195 id day known) fun (z453, z454) => Option.bind (cond z1 (cond (decide (z454 = 0)) (Option.bind (P.ref03_SameState (State.mk (Told.mk z196.opened.known z196.opened.cents z196.opened.since z196.opened.by_) (Told.mk z196.limit.known z196.limit.cents z196.limit.since z196.limit.by_) (Told.mk z196.owed.known z196.owed.cents z196.owed.since z196.owed.by_) (Told.mk z196.late.known z196.late.cents z196.late.since z196.late.by_) (Told.mk z196.default.known z196.default.cents z196.default.since z196.default.by_) (Told.mk z196.closed.known z196.closed.cents z196.closed.since z196.closed.by_) (Span.mk z196.paid.lo z196.paid.hi) z196.is_) (State.mk (Told.mk z453.opened.known z453.opened.cents z453.opened.since z453.opened.by_) (Told.mk z453.limit.known z453.limit.cents z453.limit.since z453.limit.by_) (Told.mk z453.owed.known z453.owed.cents z453.owed.since z453.owed.by_) (Told.mk z453.late.known z453.late.cents z453.late.since z453.late.by_) (Told.mk z453.default.known z453.default.cents z453.default.since z453.default.by_) (Told.mk z453.closed.known z453.closed.cents z453.closed.since z453.closed.by_) (Span.mk z453.paid.lo z453.paid.hi) z453.is_)) fun z504 => some z504) (some false)) (some false)) fun x509 => some x509)))))
theorem C_law03_AccountKnown {M : List Nat} {w : World} (hM : MLt M w) (hG : RdC M w 0 0 (glob0.map (Value.int .i64))) {l : (List Report)} {v_l_0 : Value} (f_l_0 : RdS ReportE M w v_l_0 l) {id : Int} (f_id_0 : InK .i64 id) {day : Int} (f_day_0 : InK .i64 day) {known : Int} (f_known_0 : InK .i64 known) {by_ : (List Int)} {v_by__0 : Value} (f_by__0 : RdS (intE .u32) M w v_by__0 by_) {r0 : Bool} (h : P.law03_AccountKnown l id day known by_ = some r0) :
  Calls Tryd.prog 7 (List.toArray [v_l_0, vi id, vi day, vi known, v_by__0]) w fun e w' => e = .returned (Value.bool r0) ∧ Ext w w' := by
 have hI := Hp.start (Mu := []) hM
 refine calls_cw Tryd.func7 rfl Tryd.ntmps7 rfl ?_
 refine cw_seq (cw_regF (s_as rfl rfl (Reg.nil (cw_seq (cw_regF ?_)))))
 obtain ⟨z1, hz2, h⟩ := bnd h
 refine s_call rfl Tryd.call26 rfl ((C_law03_alive hI.mlt hG hz2).mono ?_)
 rintro _ w3 ⟨rfl, e4⟩
 refine ⟨_, rfl, ?_⟩
 have hI5 := hI.ext e4
 refine s_as rfl rfl (Reg.nil (cw_seq ?_))
 obtain ⟨j6, h7, h⟩ := bnd h
 refine cw_keep [0, 1, 2, 3, 4, 11] rfl (cw_seqD 0 (ι := Bool) (fun x8 => [(45, Value.bool x8)]) (fun x8 => fun w9 => Hp w [] M [] w9 ∧ Adv (mm [] M) (mm [] M) w3 w9 ∧ x8 = j6) ?_ ?_)
 ·refine cw_regF ?_
  iterate 4 refine s_mv rfl rfl ?_
  refine y_bs (E := (intE .i64)) (xs := [day, known]) sl36 hI5 rfl rfl (Cls.cons rfl (Cls.cons rfl Cls.nil)) (Chs.cons ⟨rfl, f_day_0⟩ (Chs.cons ⟨rfl, f_known_0⟩ Chs.nil)) rfl rfl ?_
  intro v12 w13 hI14 x15
  obtain ⟨z16, hz17, h7⟩ := bnd h7
  refine s_call rfl Tryd.call30 rfl ((C_law03_ready (hI14.sel [] rfl).mlt ((f_l_0.adv hI14.adv).adv (Hp.selA (σ := [ownR [] (intE .i64) 3 v12 ([day, known] : List Int)]) [])) f_id_0 (hI14.lendRd [] 0 rfl rfl) hz17).mono ?_)
  rintro _ w18 ⟨rfl, e19⟩
  refine ⟨_, rfl, ?_⟩
  have hI20 := hI14.ext e19
  refine s_not rfl rfl (s_mv rfl rfl (Reg.gsplit (t := 42) rfl (fun hg21 => ?_) (fun hg21 => ?_)))
  ·replace h7 := cdT hg21 h7
   refine Reg.pass rfl rfl rfl rfl (Reg.pass rfl rfl rfl rfl (s_pkT rfl rfl rfl (Reg.nil ?_)))
   obtain rfl := Option.some.inj h7
   refine ⟨rfl, true, ⟨(hI20.sel [] rfl), ((x15.trans (Adv.of_ext e19)).trans (Hp.selA (σ := [ownR [] (intE .i64) 3 v12 ([day, known] : List Int)]) [])), rfl⟩, sb7 rfl rfl rfl rfl rfl rfl rfl⟩
  replace h7 := cdF hg21 h7
  refine Reg.take rfl rfl (s_mv rfl rfl (Reg.take rfl rfl (s_not rfl rfl (s_pkF rfl rfl rfl (Reg.nil ?_)))))
  obtain rfl := Option.some.inj h7
  refine ⟨rfl, !z1, ⟨(hI20.sel [] rfl), ((x15.trans (Adv.of_ext e19)).trans (Hp.selA (σ := [ownR [] (intE .i64) 3 v12 ([day, known] : List Int)]) [])), rfl⟩, sb7 rfl rfl rfl rfl rfl rfl rfl⟩
 rintro x8 w9 ⟨hI10, hA11, rfl⟩
 refine cw_cond rfl (fun hc22 => ?_) (fun hc22 => ?_)
 ·replace h := cdT hc22 h
  refine cw_seq (cw_regF (s_mv rfl rfl (s_as rfl rfl (Reg.nil (cw_ret ?_)))))
  obtain rfl := Option.some.inj h
  refine fin1 Tryd.results7 rfl ?_
  exact ⟨rfl, hI10.kp⟩
 replace h := cdF hc22 h
 refine cw_skip (cw_seq (cw_regF (s_as rfl rfl (Reg.nil (cw_seq (cw_regF (y_bs (E := ReportE) (xs := []) sl22 hI10 rfl rfl Cls.nil Chs.nil rfl rfl ?_)))))))
 intro v23 w24 hI25 x26
 refine s_mv rfl rfl ?_
 obtain ⟨l27, hl27, h⟩ := bnd h
 obtain ⟨hbl27, el27⟩ := appo_out hl27
 refine y_app 0 sl22 hI25 rfl rfl rfl (f_l_0.adv hI25.adv) hbl27 rfl ?_
 rw [← el27]
 intro v28 w29 hI30 x31
 refine s_as rfl rfl (Reg.nil (cw_seq (cw_seq (cw_regF (s_mv rfl rfl (s_len rfl (f_l_0.adv hI30.adv) Tryd.underlying22 rfl (s_mv rfl rfl (Reg.nil ?_))))))))
 obtain ⟨j32, h33, h⟩ := bnd h
 refine cw_keep [4, 12, 50, 51, 52, 0, 1, 2, 3, 11, 13] rfl (cw_unitD 5 (ι := (List Report) × (List Report) × Value) (fun ⟨x34, x36, v35⟩ => [(12, v35)]) (fun ⟨x34, x36, v35⟩ => fun w37 => Hp w [] M [ownR [] ReportE 61 v35 x34, ownR [] ReportE 61 v28 x36] w37 ∧ Adv (mm [ownR [] ReportE 61 v28 l27] M) (mm [ownR [] ReportE 61 v35 x34, ownR [] ReportE 61 v28 x36] M) w29 w37 ∧ (x34, x36) = j32) ?_ ?_)
 ·refine cw_block (cw_keep [12, 52, 0, 1, 2, 3, 4, 11, 13, 50, 51] rfl ?_)
  have hI48 := hI30.addNil ReportE 61
  refine cw_loopM 2 (ι := (List Report) × Int × (List Report) × Value) _ (fun ⟨x40, x42, x44, v41⟩ => [(12, v41), (52, vi x42)]) (fun ⟨x40, x42, x44, v41⟩ => (x40, x42, x44)) (fun ⟨x40, x42, x44, v41⟩ => fun w45 => Hp w [] M [ownR [] ReportE 61 v41 x40, ownR [] ReportE 61 v28 x44] w45 ∧ Adv (mm [ownR [] ReportE 61 v28 l27] M) (mm [ownR [] ReportE 61 v41 x40, ownR [] ReportE 61 v28 x44] M) w29 w45 ∧ InK .i64 x42) (([] : List Report), 0, l27, (vn)) h33 ⟨hI48, (hI30.addNilH ReportE 61), (by decide)⟩ (sb11 rfl rfl rfl rfl rfl rfl rfl rfl rfl rfl rfl) ?_
  rintro ⟨x40, x42, x44, v41⟩ w45 ⟨hI46, hA47, r43⟩ y49 h50 hR51
  refine cw_seq (cw_regF (s_lss rfl rfl rfl (Reg.nil (cw_seq (cw_cond rfl (fun hc52 => ?_) (fun hc52 => ?_))))))
  ·replace h50 := cdT hc52 h50
   refine cw_skip ?_
   obtain ⟨j53, h54, h50⟩ := bnd h50
   refine cw_keep [12, 0, 1, 2, 3, 4, 11, 13, 50, 51, 52] rfl (cw_seqD 1 (ι := (List Report) × (List Report) × Value) (fun ⟨x55, x57, v56⟩ => [(12, v56)]) (fun ⟨x55, x57, v56⟩ => fun w58 => Hp w [] M [ownR [] ReportE 61 v56 x55, ownR [] ReportE 61 v28 x57] w58 ∧ Adv (mm [ownR [] ReportE 61 v41 x40, ownR [] ReportE 61 v28 x44] M) (mm [ownR [] ReportE 61 v56 x55, ownR [] ReportE 61 v28 x57] M) w45 w58 ∧ (x55, x57) = j53) ?_ ?_)
   ·refine cw_block (cw_seq (cw_regF (s_mv rfl rfl ?_)))
    obtain ⟨y61, hy61, h54⟩ := bnd h54
    refine p_ia rfl rfl (f_l_0.adv hI46.adv) hy61 Tryd.underlying22 Tryd.sizeOf61 rfl ?_
    intro b62 o63 cs64 hR65 hC66
    obtain ⟨rfl, r67, r68, r69, r70, r71, r72, r73, r74⟩ := ReportE_R.1 hR65
    refine s_lda rfl hC66.cells Tryd.isAgg61 rfl Tryd.sizeOf61 rfl (y_al hI46 Tryd.zeroValue61 rfl rfl ?_)
    intro b75 w76 hI77 x78
    refine s_as rfl rfl (y_st 0 hI77 rfl rfl rfl rfl Tryd.sizeOf61 rfl rfl (on8 rfl rfl rfl rfl rfl rfl rfl rfl) ?_)
    intro w79 hI80 x81
    have hC83 := hI80.freezeRow 0 rfl
    have hI82 := hI80.erase 0
    refine Reg.nil (cw_seq (cw_seq (cw_regF (s_fa rfl Tryd.underlying61 rfl Tryd.sizeOf3 rfl (s_ld rfl (hC83.cells.at 3 rfl) Tryd.isAgg3 rfl (s_mv rfl rfl (s_leq rfl rfl rfl (Reg.nil (cw_cond rfl (fun hc84 => ?_) (fun hc84 => ?_))))))))))
    ·replace h54 := cdT hc84 h54
     refine cw_seq (cw_regF (s_mv rfl rfl (s_lda rfl hC83.cells Tryd.isAgg61 rfl Tryd.sizeOf61 rfl (y_bs (E := ReportE) (xs := [(Report.mk y61.id y61.source y61.account y61.made y61.about y61.kind y61.cents y61.of_)]) sl22 hI82 rfl rfl (Cls.cons rfl Cls.nil) (Chs.cons ((ReportE_R (x := (Report.mk y61.id y61.source y61.account y61.made y61.about y61.kind y61.cents y61.of_))).2 ⟨rfl, r67, r68, r69, r70, r71, r72, r73, r74⟩) Chs.nil) rfl rfl ?_))))
     intro v85 w86 hI87 x88
     have hf89 := hI87.freeze 0 rfl
     have hI90 := hI87.erase 0
     obtain ⟨l91, hl91, h54⟩ := bnd h54
     obtain ⟨hbl91, el91⟩ := appo_out hl91
     refine y_app 0 sl22 hI90 rfl rfl rfl hf89 hbl91 rfl ?_
     rw [← el91]
     intro v92 w93 hI94 x95
     refine s_as rfl rfl (Reg.nil (cw_exit (exB_same ?_)))
     obtain rfl := Option.some.inj h54
     refine ⟨rfl, (l91, x44, v92), ⟨hI94, (x78.trans (x81.trans ((hI80.eraseH 0).trans (x88.trans ((hI87.eraseH 0).trans x95))))), rfl⟩, sb11 rfl rfl rfl rfl rfl rfl rfl rfl rfl rfl rfl⟩
    replace h54 := cdF hc84 h54
    refine cw_skip (cw_seq (cw_regF (s_mv rfl rfl (s_mv rfl rfl ?_))))
    obtain ⟨y96, hy96, h54⟩ := bnd h54
    refine y_ia 1 hI82 rfl rfl rfl hy96 Tryd.underlying22 Tryd.sizeOf61 rfl ?_
    intro g97 cs98 hg99 hR100 hC101
    have khR100 := hR100
    obtain ⟨rfl, r102, r103, r104, r105, r106, r107, r108, r109⟩ := ReportE_R.1 hR100
    refine s_as rfl rfl (Reg.nil (cw_seq (cw_regF ?_)))
    iterate 4 refine s_mv rfl rfl ?_
    obtain ⟨z110, hz111, h54⟩ := bnd h54
    refine s_call rfl Tryd.call31 rfl ((C_law03_choose hI82.mlt (f_by__0.adv hI82.adv) r43 hz111).mono ?_)
    rintro _ w112 ⟨rfl, r114, e113⟩
    refine ⟨_, rfl, ?_⟩
    have hI115 := hI82.ext e113
    obtain ⟨n116, hn116, h54⟩ := bnd h54
    have kn116 := remO_out hn116
    refine p_rem rfl rfl rfl kn116 ?_
    obtain ⟨n117, hn117, h54⟩ := bnd h54
    replace hn117 := chk_out hn117
    refine p_cvt rfl Tryd.underlying65 Tryd.underlying3 rfl hn117 ?_
    refine s_mv rfl rfl (s_mv rfl rfl ?_)
    obtain ⟨n118, hn118, h54⟩ := bnd h54
    replace hn118 := chk_out hn118
    refine p_add rfl rfl rfl hn118 ?_
    obtain ⟨z119, hz120, h54⟩ := bnd h54
    refine s_call rfl Tryd.call31 rfl ((C_law03_choose hI115.mlt (f_by__0.adv hI115.adv) hn118.2 hz120).mono ?_)
    rintro _ w121 ⟨rfl, r123, e122⟩
    refine ⟨_, rfl, ?_⟩
    have hI124 := hI115.ext e122
    obtain ⟨n125, hn125, h54⟩ := bnd h54
    have kn125 := remO_out hn125
    refine p_rem rfl rfl rfl kn125 ?_
    obtain ⟨n126, hn126, h54⟩ := bnd h54
    replace hn126 := chk_out hn126
    refine p_cvt rfl Tryd.underlying65 Tryd.underlying3 rfl hn126 ?_
    refine s_nc rfl rfl (s_fa rfl Tryd.underlying61 rfl Tryd.sizeOf3 rfl ?_)
    obtain ⟨cs127, hR128, hC129⟩ := (hI124.ownAt 1 rfl).cellsAt hg99 (ixo_out hy96).2.2
    have khR128 := hR128
    obtain ⟨rfl, r130, r131, r132, r133, r134, r135, r136, r137⟩ := ReportE_R.1 hR128
    obtain ⟨l138, hl138, h54⟩ := bnd h54
    refine y_sto 1 (E := ReportE) (o := 1) hI124 rfl rfl rfl rfl hg99 hl138 ((ReportE_R (x := y96)).2 ⟨rfl, r130, r131, r132, r133, r134, r135, r136, r137⟩) hC129 ((ReportE_R (x := (Report.mk y96.id n117 y96.account y96.made y96.about y96.kind y96.cents y96.of_))).2 ⟨rfl, r130, hn117.2, r132, r133, r134, r135, r136, r137⟩) rfl Tryd.sizeOf3 rfl (one1 rfl one0) ?_
    intro w139 hI140 x141
    refine s_nc rfl rfl (s_fa rfl Tryd.underlying61 rfl Tryd.sizeOf3 rfl ?_)
    obtain ⟨cs142, hR143, hC144⟩ := (hI140.ownAt 1 rfl).cellsAt hg99 (ixo_out (seto_get hl138)).2.2
    have khR143 := hR143
    obtain ⟨rfl, r145, r146, r147, r148, r149, r150, r151, r152⟩ := ReportE_R.1 hR143
    obtain ⟨l153, hl153, h54⟩ := bnd h54
    refine y_sto 1 (E := ReportE) (o := 2) hI140 rfl rfl rfl rfl hg99 hl153 ((ReportE_R (x := (Report.mk y96.id n117 y96.account y96.made y96.about y96.kind y96.cents y96.of_))).2 ⟨rfl, r145, r146, r147, r148, r149, r150, r151, r152⟩) hC144 ((ReportE_R (x := (Report.mk y96.id n117 n126 y96.made y96.about y96.kind y96.cents y96.of_))).2 ⟨rfl, r145, r146, hn126.2, r148, r149, r150, r151, r152⟩) rfl Tryd.sizeOf3 rfl (one1 rfl one0) ?_
    intro w154 hI155 x156
    refine Reg.nil (cw_seq (cw_regF (s_mv rfl rfl (s_mv rfl rfl ?_))))
    obtain ⟨n157, hn157, h54⟩ := bnd h54
    replace hn157 := chk_out hn157
    refine p_add rfl rfl rfl hn157 (s_mv rfl rfl (s_mv rfl rfl ?_))
    obtain ⟨n158, hn158, h54⟩ := bnd h54
    replace hn158 := chk_out hn158
    refine p_add rfl rfl rfl hn158 ?_
    obtain ⟨z159, hz160, h54⟩ := bnd h54
    refine s_call rfl Tryd.call31 rfl ((C_law03_choose hI155.mlt (f_by__0.adv hI155.adv) hn158.2 hz160).mono ?_)
    rintro _ w161 ⟨rfl, r163, e162⟩
    refine ⟨_, rfl, ?_⟩
    have hI164 := hI155.ext e162
    obtain ⟨n165, hn165, h54⟩ := bnd h54
    replace hn165 := chk_out hn165
    refine p_cvt rfl Tryd.underlying65 Tryd.underlying3 rfl hn165 ?_
    refine s_mv rfl rfl ?_
    obtain ⟨n166, hn166, h54⟩ := bnd h54
    replace hn166 := chk_out hn166
    refine p_sub rfl rfl rfl hn166 ?_
    obtain ⟨n167, hn167, h54⟩ := bnd h54
    have kn167 := remO_out hn167
    refine p_rem rfl rfl rfl kn167 ?_
    obtain ⟨n168, hn168, h54⟩ := bnd h54
    replace hn168 := chk_out hn168
    refine p_add rfl rfl rfl hn168 (s_nc rfl rfl (s_fa rfl Tryd.underlying61 rfl Tryd.sizeOf3 rfl ?_))
    obtain ⟨cs169, hR170, hC171⟩ := (hI164.ownAt 1 rfl).cellsAt hg99 (ixo_out (seto_get hl153)).2.2
    have khR170 := hR170
    obtain ⟨rfl, r172, r173, r174, r175, r176, r177, r178, r179⟩ := ReportE_R.1 hR170
    obtain ⟨l180, hl180, h54⟩ := bnd h54
    refine y_sto 1 (E := ReportE) (o := 3) hI164 rfl rfl rfl rfl hg99 hl180 ((ReportE_R (x := (Report.mk y96.id n117 n126 y96.made y96.about y96.kind y96.cents y96.of_))).2 ⟨rfl, r172, r173, r174, r175, r176, r177, r178, r179⟩) hC171 ((ReportE_R (x := (Report.mk y96.id n117 n126 n168 y96.about y96.kind y96.cents y96.of_))).2 ⟨rfl, r172, r173, r174, hn168.2, r176, r177, r178, r179⟩) rfl Tryd.sizeOf3 rfl (one1 rfl one0) ?_
    intro w181 hI182 x183
    refine Reg.nil (cw_seq (cw_regF (s_mv rfl rfl (s_nc rfl rfl (s_fa rfl Tryd.underlying61 rfl Tryd.sizeOf5 rfl ?_)))))
    obtain ⟨cs184, hR185, hC186⟩ := (hI182.ownAt 1 rfl).cellsAt hg99 (ixo_out (seto_get hl180)).2.2
    have khR185 := hR185
    obtain ⟨rfl, r187, r188, r189, r190, r191, r192, r193, r194⟩ := ReportE_R.1 hR185
    refine s_ld rfl (hC186.at 5 rfl) Tryd.isAgg5 rfl (s_leq rfl rfl rfl (Reg.nil ?_))
    obtain ⟨j195, h196, h54⟩ := bnd h54
    refine cw_sub (L := [(14, _), (16, _), (103, _), (0, _), (1, _), (2, _), (3, _), (4, _), (11, _), (12, _), (13, _), (50, _), (51, _), (52, _)]) (Sub.cons rfl (Sub.cons rfl (sb12 rfl rfl rfl rfl rfl rfl rfl rfl rfl rfl rfl rfl))) (cw_unitD 3 (ι := (List Report)) (fun x197 => []) (fun x197 => fun w198 => Hp w [] M [ownR [] ReportE 61 v41 x40, ownR [] ReportE 61 v28 x197] w198 ∧ Adv (mm [ownR [] ReportE 61 v41 x40, ownR [] ReportE 61 v28 l180] M) (mm [ownR [] ReportE 61 v41 x40, ownR [] ReportE 61 v28 x197] M) w181 w198 ∧ x197 = j195) ?_ ?_)
    ·refine cw_cond rfl (fun hc201 => ?_) (fun hc201 => ?_)
     ·replace h196 := cdT hc201 h196
      refine cw_regF ?_
      iterate 3 refine s_mv rfl rfl ?_
      obtain ⟨n202, hn202, h196⟩ := bnd h196
      replace hn202 := chk_out hn202
      refine p_add rfl rfl rfl hn202 ?_
      obtain ⟨z203, hz204, h196⟩ := bnd h196
      refine s_call rfl Tryd.call31 rfl ((C_law03_choose hI182.mlt (f_by__0.adv hI182.adv) hn202.2 hz204).mono ?_)
      rintro _ w205 ⟨rfl, r207, e206⟩
      refine ⟨_, rfl, ?_⟩
      have hI208 := hI182.ext e206
      obtain ⟨n209, hn209, h196⟩ := bnd h196
      replace hn209 := chk_out hn209
      refine p_cvt rfl Tryd.underlying65 Tryd.underlying3 rfl hn209 ?_
      obtain ⟨n210, hn210, h196⟩ := bnd h196
      have kn210 := remO_out hn210
      refine p_rem rfl rfl rfl kn210 ?_
      refine s_nc rfl rfl (s_fa rfl Tryd.underlying61 rfl Tryd.sizeOf3 rfl ?_)
      obtain ⟨cs211, hR212, hC213⟩ := (hI208.ownAt 1 rfl).cellsAt hg99 (ixo_out (seto_get hl180)).2.2
      have khR212 := hR212
      obtain ⟨rfl, r214, r215, r216, r217, r218, r219, r220, r221⟩ := ReportE_R.1 hR212
      obtain ⟨l222, hl222, h196⟩ := bnd h196
      refine y_sto 1 (E := ReportE) (o := 4) hI208 rfl rfl rfl rfl hg99 hl222 ((ReportE_R (x := (Report.mk y96.id n117 n126 n168 y96.about y96.kind y96.cents y96.of_))).2 ⟨rfl, r214, r215, r216, r217, r218, r219, r220, r221⟩) hC213 ((ReportE_R (x := (Report.mk y96.id n117 n126 n168 n210 y96.kind y96.cents y96.of_))).2 ⟨rfl, r214, r215, r216, r217, (remO_in hn210 hn209.2), r219, r220, r221⟩) rfl Tryd.sizeOf3 rfl (one1 rfl one0) ?_
      intro w223 hI224 x225
      refine Reg.nil ?_
      obtain rfl := Option.some.inj h196
      refine ⟨rfl, l222, ⟨hI224, ((Adv.of_ext e206).trans x225), rfl⟩, sb11 rfl rfl rfl rfl rfl rfl rfl rfl rfl rfl rfl⟩
     replace h196 := cdF hc201 h196
     refine cw_skip ?_
     obtain rfl := Option.some.inj h196
     refine ⟨rfl, l180, ⟨hI182, (Adv.refl _ _), rfl⟩, sb11 rfl rfl rfl rfl rfl rfl rfl rfl rfl rfl rfl⟩
    rintro x197 w198 ⟨hI199, hA200, rfl⟩
    obtain rfl := Option.some.inj h54
    refine ⟨rfl, (x40, x197, v41), ⟨hI199, (x78.trans (x81.trans ((hI80.eraseH 0).trans ((Adv.of_ext e113).trans ((Adv.of_ext e122).trans (x141.trans (x156.trans ((Adv.of_ext e162).trans (x183.trans hA200))))))))), rfl⟩, sb11 rfl rfl rfl rfl rfl rfl rfl rfl rfl rfl rfl⟩
   rintro ⟨x55, x57, v56⟩ w58 ⟨hI59, hA60, rfl⟩
   refine cw_regF ?_
   obtain ⟨n226, hn226, h50⟩ := bnd h50
   replace hn226 := chk_out hn226
   refine p_add rfl rfl rfl hn226 (s_mv rfl rfl (Reg.nil ?_))
   obtain rfl := Option.some.inj h50
   refine ⟨rfl, (x55, n226, x57, v56), ⟨⟨hI59, (hA47.trans hA60), hn226.2⟩, rfl⟩, sb11 rfl rfl rfl rfl rfl rfl rfl rfl rfl rfl rfl⟩
  replace h50 := cdF hc52 h50
  refine cw_exit (exB_same ?_)
  obtain rfl := Option.some.inj h50
  obtain rfl := hR51 _ rfl
  refine ⟨rfl, (x40, x44, v41), ⟨hI46, hA47, rfl⟩, sb7 rfl rfl rfl rfl rfl rfl rfl⟩
 rintro ⟨x34, x36, v35⟩ w37 ⟨hI38, hA39, rfl⟩
 refine cw_seq (cw_regF ?_)
 iterate 4 refine s_mv rfl rfl ?_
 obtain ⟨⟨z227, z228⟩, hz229, h⟩ := bnd h
 refine s_call rfl Tryd.call20 rfl ((C_account_State hI38.mlt (hG.adv hI38.adv) (f_l_0.adv hI38.adv) f_id_0 f_day_0 f_known_0 hz229).mono ?_)
 rintro _ w230 ⟨v235, v240, v245, v250, v255, v260, rfl, r232, r233, r234, hf236, r237, r238, r239, hf241, r242, r243, r244, hf246, r247, r248, r249, hf251, r252, r253, r254, hf256, r257, r258, r259, hf261, r262, r263, r264, r265, e231⟩
 refine ⟨_, rfl, ?_⟩
 have hI266 := hI38.ext e231
 refine s_mv rfl rfl (s_xt rfl rfl rfl (s_xt rfl rfl rfl (y_al hI266 Tryd.zeroValue42 rfl rfl ?_)))
 intro b267 w268 hI269 x270
 refine y_st 0 hI269 rfl rfl rfl rfl Tryd.sizeOf42 rfl rfl (one1 rfl (one1 rfl (one1 rfl (one1 (RdS.oneC hf236) (one1 rfl (one1 rfl (one1 rfl (one1 (RdS.oneC hf241) (one1 rfl (one1 rfl (one1 rfl (one1 (RdS.oneC hf246) (one1 rfl (one1 rfl (one1 rfl (one1 (RdS.oneC hf251) (one1 rfl (one1 rfl (one1 rfl (one1 (RdS.oneC hf256) (one1 rfl (one1 rfl (one1 rfl (one1 (RdS.oneC hf261) (on3 rfl rfl rfl))))))))))))))))))))))))) ?_
 intro w271 hI272 x273
 have hC275 := hI272.freezeRow 0 rfl
 have hI274 := hI272.erase 0
 refine s_as rfl rfl (Reg.nil (cw_seq (cw_regF ?_)))
 iterate 4 refine s_mv rfl rfl ?_
 have hf276 := hI274.freeze 0 rfl
 have hI277 := hI274.erase 0
 obtain ⟨⟨z278, z279⟩, hz280, h⟩ := bnd h
 refine s_call rfl Tryd.call20 rfl ((C_account_State hI277.mlt (hG.adv hI277.adv) hf276 f_id_0 f_day_0 f_known_0 hz280).mono ?_)
 rintro _ w281 ⟨v286, v291, v296, v301, v306, v311, rfl, r283, r284, r285, hf287, r288, r289, r290, hf292, r293, r294, r295, hf297, r298, r299, r300, hf302, r303, r304, r305, hf307, r308, r309, r310, hf312, r313, r314, r315, r316, e282⟩
 refine ⟨_, rfl, ?_⟩
 have hI317 := hI277.ext e282
 refine s_mv rfl rfl (s_xt rfl rfl rfl (s_xt rfl rfl rfl (y_al hI317 Tryd.zeroValue42 rfl rfl ?_)))
 intro b318 w319 hI320 x321
 refine y_st 0 hI320 rfl rfl rfl rfl Tryd.sizeOf42 rfl rfl (one1 rfl (one1 rfl (one1 rfl (one1 (RdS.oneC hf287) (one1 rfl (one1 rfl (one1 rfl (one1 (RdS.oneC hf292) (one1 rfl (one1 rfl (one1 rfl (one1 (RdS.oneC hf297) (one1 rfl (one1 rfl (one1 rfl (one1 (RdS.oneC hf302) (one1 rfl (one1 rfl (one1 rfl (one1 (RdS.oneC hf307) (one1 rfl (one1 rfl (one1 rfl (one1 (RdS.oneC hf312) (on3 rfl rfl rfl))))))))))))))))))))))))) ?_
 intro w322 hI323 x324
 have hC326 := hI323.freezeRow 0 rfl
 have hI325 := hI323.erase 0
 refine s_as rfl rfl (Reg.nil (cw_seq (cw_regF ?_)))
 iterate 3 refine s_mv rfl rfl ?_
 obtain ⟨⟨z327, z328⟩, hz329, h⟩ := bnd h
 refine s_call rfl Tryd.call22 rfl ((C_account_Clashes hI325.mlt (hG.adv hI325.adv) (f_l_0.adv hI325.adv) f_id_0 f_known_0 hz329).mono ?_)
 rintro _ w330 ⟨v332, rfl, hf333, r334, e331⟩
 refine ⟨_, rfl, ?_⟩
 have hI335 := hI325.addOwn e331 hf333
 refine s_mv rfl rfl (s_xt rfl rfl rfl (s_xt rfl rfl rfl (s_as rfl rfl (s_as rfl rfl (Reg.nil (cw_seq (cw_regF ?_)))))))
 iterate 3 refine s_mv rfl rfl ?_
 obtain ⟨⟨z336, z337⟩, hz338, h⟩ := bnd h
 refine s_call rfl Tryd.call22 rfl ((C_account_Clashes hI335.mlt (hG.adv hI335.adv) (hf276.adv ((Adv.of_ext e282).trans (x321.trans (x324.trans ((hI323.eraseH 0).trans (hI325.addOwnA e331 hf333)))))) f_id_0 f_known_0 hz338).mono ?_)
 rintro _ w339 ⟨v341, rfl, hf342, r343, e340⟩
 refine ⟨_, rfl, ?_⟩
 have hI344 := hI335.addOwn e340 hf342
 refine s_mv rfl rfl (s_xt rfl rfl rfl (s_xt rfl rfl rfl (s_as rfl rfl (s_as rfl rfl (Reg.nil (cw_seq ?_))))))
 obtain ⟨j345, h346, h⟩ := bnd h
 refine cw_sub (L := [(18, _), (19, _), (20, _), (21, _), (22, _), (23, _), (24, _), (0, _), (1, _), (2, _), (3, _), (11, _), (13, _), (17, _)]) (Sub.cons rfl (Sub.cons rfl (sb12 rfl rfl rfl rfl rfl rfl rfl rfl rfl rfl rfl rfl))) (cw_seqD 7 (ι := Bool) (fun x347 => [(169, Value.bool x347)]) (fun x347 => fun w348 => Hp w [] M [ownR [] ClashE 55 v341 z336, ownR [] ClashE 55 v332 z327, ownR [] ReportE 61 v28 x36] w348 ∧ Adv (mm [ownR [] ClashE 55 v341 z336, ownR [] ClashE 55 v332 z327, ownR [] ReportE 61 v28 x36] M) (mm [ownR [] ClashE 55 v341 z336, ownR [] ClashE 55 v332 z327, ownR [] ReportE 61 v28 x36] M) w339 w348 ∧ x347 = j345) ?_ ?_)
 ·refine cw_regF (s_mv rfl rfl (s_neq rfl rfl rfl (s_mv rfl rfl (Reg.gsplit (t := 146) rfl (fun hg351 => ?_) (fun hg351 => ?_)))))
  ·replace h346 := cdT hg351 h346
   refine Reg.pass rfl rfl rfl rfl (Reg.pass rfl rfl rfl rfl (s_pkT rfl rfl rfl (s_mv rfl rfl (Reg.pass rfl rfl rfl rfl (Reg.pass rfl rfl rfl rfl (s_pkT rfl rfl rfl (s_mv rfl rfl (Reg.pass rfl rfl rfl rfl (Reg.pass rfl rfl rfl rfl (s_pkT rfl rfl rfl (s_mv rfl rfl ?_)))))))))))
   iterate 4 refine Reg.pass rfl rfl rfl rfl ?_
   refine s_pkT rfl rfl rfl (s_mv rfl rfl ?_)
   iterate 4 refine Reg.pass rfl rfl rfl rfl ?_
   refine s_pkT rfl rfl rfl (Reg.nil ?_)
   obtain rfl := Option.some.inj h346
   refine ⟨rfl, true, ⟨hI344, (Adv.refl _ _), rfl⟩, sb8 rfl rfl rfl rfl rfl rfl rfl rfl⟩
  replace h346 := cdF hg351 h346
  refine Reg.take rfl rfl (s_mv rfl rfl (Reg.take rfl rfl (s_neq rfl rfl rfl (s_pkF rfl rfl rfl (s_mv rfl rfl (Reg.gsplit (t := 150) rfl (fun hg352 => ?_) (fun hg352 => ?_)))))))
  ·replace h346 := cdT hg352 h346
   refine Reg.pass rfl rfl rfl rfl (Reg.pass rfl rfl rfl rfl (s_pkT rfl rfl rfl (s_mv rfl rfl (Reg.pass rfl rfl rfl rfl (Reg.pass rfl rfl rfl rfl (s_pkT rfl rfl rfl (s_mv rfl rfl ?_)))))))
   iterate 4 refine Reg.pass rfl rfl rfl rfl ?_
   refine s_pkT rfl rfl rfl (s_mv rfl rfl ?_)
   iterate 4 refine Reg.pass rfl rfl rfl rfl ?_
   refine s_pkT rfl rfl rfl (Reg.nil ?_)
   obtain rfl := Option.some.inj h346
   refine ⟨rfl, true, ⟨hI344, (Adv.refl _ _), rfl⟩, sb8 rfl rfl rfl rfl rfl rfl rfl rfl⟩
  replace h346 := cdF hg352 h346
  refine Reg.take rfl rfl (s_mv rfl rfl (Reg.take rfl rfl (s_neq rfl rfl rfl (s_pkF rfl rfl rfl (s_mv rfl rfl (Reg.gsplit (t := 154) rfl (fun hg353 => ?_) (fun hg353 => ?_)))))))
  ·replace h346 := cdT hg353 h346
   refine Reg.pass rfl rfl rfl rfl (Reg.pass rfl rfl rfl rfl (s_pkT rfl rfl rfl (s_mv rfl rfl ?_)))
   iterate 4 refine Reg.pass rfl rfl rfl rfl ?_
   refine s_pkT rfl rfl rfl (s_mv rfl rfl ?_)
   iterate 4 refine Reg.pass rfl rfl rfl rfl ?_
   refine s_pkT rfl rfl rfl (Reg.nil ?_)
   obtain rfl := Option.some.inj h346
   refine ⟨rfl, true, ⟨hI344, (Adv.refl _ _), rfl⟩, sb8 rfl rfl rfl rfl rfl rfl rfl rfl⟩
  replace h346 := cdF hg353 h346
  refine Reg.take rfl rfl (s_mv rfl rfl (Reg.take rfl rfl (s_neq rfl rfl rfl (s_pkF rfl rfl rfl (s_mv rfl rfl (Reg.gsplit (t := 158) rfl (fun hg354 => ?_) (fun hg354 => ?_)))))))
  ·replace h346 := cdT hg354 h346
   iterate 4 refine Reg.pass rfl rfl rfl rfl ?_
   refine s_pkT rfl rfl rfl (s_mv rfl rfl ?_)
   iterate 4 refine Reg.pass rfl rfl rfl rfl ?_
   refine s_pkT rfl rfl rfl (Reg.nil ?_)
   obtain rfl := Option.some.inj h346
   refine ⟨rfl, true, ⟨hI344, (Adv.refl _ _), rfl⟩, sb8 rfl rfl rfl rfl rfl rfl rfl rfl⟩
  replace h346 := cdF hg354 h346
  refine Reg.take rfl rfl (s_lda rfl (hC275.adv ((hI274.eraseH 0).trans ((Adv.of_ext e282).trans (x321.trans (x324.trans ((hI323.eraseH 0).trans ((hI325.addOwnA e331 hf333).trans (hI335.addOwnA e340 hf342)))))))).cells Tryd.isAgg42 rfl Tryd.sizeOf42 rfl (Reg.take rfl rfl (s_lda rfl (hC326.adv ((hI325.addOwnA e331 hf333).trans (hI335.addOwnA e340 hf342))).cells Tryd.isAgg42 rfl Tryd.sizeOf42 rfl (Reg.take rfl rfl ?_))))
  obtain ⟨z355, hz356, h346⟩ := bnd h346
  refine s_call rfl Tryd.call24 rfl ((C_ref03_SameState (a := (State.mk (Told.mk z227.opened.known z227.opened.cents z227.opened.since z227.opened.by_) (Told.mk z227.limit.known z227.limit.cents z227.limit.since z227.limit.by_) (Told.mk z227.owed.known z227.owed.cents z227.owed.since z227.owed.by_) (Told.mk z227.late.known z227.late.cents z227.late.since z227.late.by_) (Told.mk z227.default.known z227.default.cents z227.default.since z227.default.by_) (Told.mk z227.closed.known z227.closed.cents z227.closed.since z227.closed.by_) (Span.mk z227.paid.lo z227.paid.hi) z227.is_)) (b := (State.mk (Told.mk z278.opened.known z278.opened.cents z278.opened.since z278.opened.by_) (Told.mk z278.limit.known z278.limit.cents z278.limit.since z278.limit.by_) (Told.mk z278.owed.known z278.owed.cents z278.owed.since z278.owed.by_) (Told.mk z278.late.known z278.late.cents z278.late.since z278.late.by_) (Told.mk z278.default.known z278.default.cents z278.default.since z278.default.by_) (Told.mk z278.closed.known z278.closed.cents z278.closed.since z278.closed.by_) (Span.mk z278.paid.lo z278.paid.hi) z278.is_)) hI344.mlt r232 r233 r234 (hf236.adv (x270.trans (x273.trans ((hI272.eraseH 0).trans ((hI274.eraseH 0).trans ((Adv.of_ext e282).trans (x321.trans (x324.trans ((hI323.eraseH 0).trans ((hI325.addOwnA e331 hf333).trans (hI335.addOwnA e340 hf342))))))))))) r237 r238 r239 (hf241.adv (x270.trans (x273.trans ((hI272.eraseH 0).trans ((hI274.eraseH 0).trans ((Adv.of_ext e282).trans (x321.trans (x324.trans ((hI323.eraseH 0).trans ((hI325.addOwnA e331 hf333).trans (hI335.addOwnA e340 hf342))))))))))) r242 r243 r244 (hf246.adv (x270.trans (x273.trans ((hI272.eraseH 0).trans ((hI274.eraseH 0).trans ((Adv.of_ext e282).trans (x321.trans (x324.trans ((hI323.eraseH 0).trans ((hI325.addOwnA e331 hf333).trans (hI335.addOwnA e340 hf342))))))))))) r247 r248 r249 (hf251.adv (x270.trans (x273.trans ((hI272.eraseH 0).trans ((hI274.eraseH 0).trans ((Adv.of_ext e282).trans (x321.trans (x324.trans ((hI323.eraseH 0).trans ((hI325.addOwnA e331 hf333).trans (hI335.addOwnA e340 hf342))))))))))) r252 r253 r254 (hf256.adv (x270.trans (x273.trans ((hI272.eraseH 0).trans ((hI274.eraseH 0).trans ((Adv.of_ext e282).trans (x321.trans (x324.trans ((hI323.eraseH 0).trans ((hI325.addOwnA e331 hf333).trans (hI335.addOwnA e340 hf342))))))))))) r257 r258 r259 (hf261.adv (x270.trans (x273.trans ((hI272.eraseH 0).trans ((hI274.eraseH 0).trans ((Adv.of_ext e282).trans (x321.trans (x324.trans ((hI323.eraseH 0).trans ((hI325.addOwnA e331 hf333).trans (hI335.addOwnA e340 hf342))))))))))) r262 r263 r264 r283 r284 r285 (hf287.adv (x321.trans (x324.trans ((hI323.eraseH 0).trans ((hI325.addOwnA e331 hf333).trans (hI335.addOwnA e340 hf342)))))) r288 r289 r290 (hf292.adv (x321.trans (x324.trans ((hI323.eraseH 0).trans ((hI325.addOwnA e331 hf333).trans (hI335.addOwnA e340 hf342)))))) r293 r294 r295 (hf297.adv (x321.trans (x324.trans ((hI323.eraseH 0).trans ((hI325.addOwnA e331 hf333).trans (hI335.addOwnA e340 hf342)))))) r298 r299 r300 (hf302.adv (x321.trans (x324.trans ((hI323.eraseH 0).trans ((hI325.addOwnA e331 hf333).trans (hI335.addOwnA e340 hf342)))))) r303 r304 r305 (hf307.adv (x321.trans (x324.trans ((hI323.eraseH 0).trans ((hI325.addOwnA e331 hf333).trans (hI335.addOwnA e340 hf342)))))) r308 r309 r310 (hf312.adv (x321.trans (x324.trans ((hI323.eraseH 0).trans ((hI325.addOwnA e331 hf333).trans (hI335.addOwnA e340 hf342)))))) r313 r314 r315 hz356).mono ?_)
  rintro _ w357 ⟨rfl, e358⟩
  refine ⟨_, rfl, ?_⟩
  have hI359 := hI344.ext e358
  refine Reg.take rfl rfl (s_not rfl rfl (s_pkF rfl rfl rfl (s_mv rfl rfl (Reg.gsplit (t := 164) rfl (fun hg360 => ?_) (fun hg360 => ?_)))))
  ·replace h346 := cdT hg360 h346
   iterate 4 refine Reg.pass rfl rfl rfl rfl ?_
   refine s_pkT rfl rfl rfl (Reg.nil ?_)
   obtain rfl := Option.some.inj h346
   refine ⟨rfl, true, ⟨hI359, (Adv.of_ext e358), rfl⟩, sb8 rfl rfl rfl rfl rfl rfl rfl rfl⟩
  replace h346 := cdF hg360 h346
  refine Reg.take rfl rfl (s_mv rfl rfl (Reg.take rfl rfl (s_mv rfl rfl (Reg.take rfl rfl ?_))))
  obtain ⟨z361, hz362, h346⟩ := bnd h346
  refine s_call rfl Tryd.call25 rfl ((C_ref03_SameClashes (hI359.sel [2] rfl).mlt (hI359.lendRd [2] 1 rfl rfl) (hI359.lendRd [2] 0 rfl rfl) hz362).mono ?_)
  rintro _ w363 ⟨rfl, e364⟩
  refine ⟨_, rfl, ?_⟩
  have hI365 := hI359.ext e364
  refine Reg.take rfl rfl (s_not rfl rfl (s_pkF rfl rfl rfl (Reg.nil ?_)))
  obtain rfl := Option.some.inj h346
  refine ⟨rfl, !z361, ⟨hI365, ((Adv.of_ext e358).trans (Adv.of_ext e364)), rfl⟩, sb8 rfl rfl rfl rfl rfl rfl rfl rfl⟩
 rintro x347 w348 ⟨hI349, hA350, rfl⟩
 refine cw_cond rfl (fun hc366 => ?_) (fun hc366 => ?_)
 ·replace h := cdT hc366 h
  refine cw_seq (cw_regF (s_as rfl rfl (Reg.nil (cw_ret ?_))))
  obtain rfl := Option.some.inj h
  refine fin1 Tryd.results7 rfl ?_
  exact ⟨rfl, hI349.kp⟩
 replace h := cdF hc366 h
 refine cw_skip (cw_seq (cw_regF (s_mv rfl rfl (s_mv rfl rfl ?_))))
 obtain ⟨⟨z367, z368⟩, hz369, h⟩ := bnd h
 refine s_call rfl Tryd.call13 rfl ((C_account_Standing hI349.mlt (hG.adv hI349.adv) (f_l_0.adv hI349.adv) f_known_0 hz369).mono ?_)
 rintro _ w370 ⟨v372, rfl, hf373, r374, e371⟩
 refine ⟨_, rfl, ?_⟩
 have hI375 := hI349.addOwn e371 hf373
 refine s_mv rfl rfl (s_xt rfl rfl rfl (s_xt rfl rfl rfl (s_as rfl rfl (s_as rfl rfl (Reg.nil (cw_seq (cw_seq (cw_regF (s_mv rfl rfl (s_neq rfl rfl rfl (Reg.nil ?_)))))))))))
 refine cw_cond rfl (fun hc376 => ?_) (fun hc376 => ?_)
 ·replace h := cdT hc376 h
  refine cw_seq (cw_regF (s_as rfl rfl (Reg.nil (cw_ret ?_))))
  obtain rfl := Option.some.inj h
  refine fin1 Tryd.results7 rfl ?_
  exact ⟨rfl, hI375.kp⟩
 replace h := cdF hc376 h
 refine cw_skip (cw_seq (cw_regF (s_as rfl rfl (Reg.nil (cw_seq (cw_seq (cw_regF (s_mv rfl rfl (s_lenO rfl (hI375.ownAt 0 rfl) Tryd.underlying22 rfl ?_)))))))))
 refine s_mv rfl rfl (Reg.nil ?_)
 obtain ⟨j377, h378, h⟩ := bnd h
 refine cw_keep [27, 178, 179, 180, 1, 2, 3, 11, 13, 17] rfl (cw_unitD 4 (ι := (List Report) × Value) (fun ⟨x379, v380⟩ => [(27, v380)]) (fun ⟨x379, v380⟩ => fun w381 => Hp w [] M [ownR [] ReportE 61 v380 x379, ownR [] ReportE 61 v372 z367, ownR [] ClashE 55 v341 z336, ownR [] ClashE 55 v332 z327, ownR [] ReportE 61 v28 x36] w381 ∧ Adv (mm [ownR [] ReportE 61 v372 z367, ownR [] ClashE 55 v341 z336, ownR [] ClashE 55 v332 z327, ownR [] ReportE 61 v28 x36] M) (mm [ownR [] ReportE 61 v380 x379, ownR [] ReportE 61 v372 z367, ownR [] ClashE 55 v341 z336, ownR [] ClashE 55 v332 z327, ownR [] ReportE 61 v28 x36] M) w370 w381 ∧ x379 = j377) ?_ ?_)
 ·refine cw_block (cw_keep [27, 180, 1, 2, 3, 11, 13, 17, 178, 179] rfl ?_)
  have hI391 := hI375.addNil ReportE 61
  refine cw_loopM 2 (ι := (List Report) × Int × Value) _ (fun ⟨x384, x386, v385⟩ => [(27, v385), (180, vi x386)]) (fun ⟨x384, x386, v385⟩ => (x384, x386)) (fun ⟨x384, x386, v385⟩ => fun w388 => Hp w [] M [ownR [] ReportE 61 v385 x384, ownR [] ReportE 61 v372 z367, ownR [] ClashE 55 v341 z336, ownR [] ClashE 55 v332 z327, ownR [] ReportE 61 v28 x36] w388 ∧ Adv (mm [ownR [] ReportE 61 v372 z367, ownR [] ClashE 55 v341 z336, ownR [] ClashE 55 v332 z327, ownR [] ReportE 61 v28 x36] M) (mm [ownR [] ReportE 61 v385 x384, ownR [] ReportE 61 v372 z367, ownR [] ClashE 55 v341 z336, ownR [] ClashE 55 v332 z327, ownR [] ReportE 61 v28 x36] M) w370 w388 ∧ InK .i64 x386) (([] : List Report), 0, (vn)) h378 ⟨hI391, (hI375.addNilH ReportE 61), (by decide)⟩ (sb10 rfl rfl rfl rfl rfl rfl rfl rfl rfl rfl) ?_
  rintro ⟨x384, x386, v385⟩ w388 ⟨hI389, hA390, r387⟩ y392 h393 hR394
  refine cw_seq (cw_regF (s_lss rfl rfl rfl (Reg.nil (cw_seq (cw_cond rfl (fun hc395 => ?_) (fun hc395 => ?_))))))
  ·replace h393 := cdT hc395 h393
   refine cw_skip ?_
   obtain ⟨j396, h397, h393⟩ := bnd h393
   refine cw_keep [27, 1, 2, 3, 11, 13, 17, 178, 179, 180] rfl (cw_seqD 1 (ι := (List Report) × Value) (fun ⟨x398, v399⟩ => [(27, v399)]) (fun ⟨x398, v399⟩ => fun w400 => Hp w [] M [ownR [] ReportE 61 v399 x398, ownR [] ReportE 61 v372 z367, ownR [] ClashE 55 v341 z336, ownR [] ClashE 55 v332 z327, ownR [] ReportE 61 v28 x36] w400 ∧ Adv (mm [ownR [] ReportE 61 v385 x384, ownR [] ReportE 61 v372 z367, ownR [] ClashE 55 v341 z336, ownR [] ClashE 55 v332 z327, ownR [] ReportE 61 v28 x36] M) (mm [ownR [] ReportE 61 v399 x398, ownR [] ReportE 61 v372 z367, ownR [] ClashE 55 v341 z336, ownR [] ClashE 55 v332 z327, ownR [] ReportE 61 v28 x36] M) w388 w400 ∧ x398 = j396) ?_ ?_)
   ·refine cw_block (cw_seq (cw_regF ?_))
    obtain ⟨y403, hy403, h397⟩ := bnd h397
    refine y_ia 1 hI389 rfl rfl rfl hy403 Tryd.underlying22 Tryd.sizeOf61 rfl ?_
    intro g404 cs405 hg406 hR407 hC408
    have khR407 := hR407
    obtain ⟨rfl, r409, r410, r411, r412, r413, r414, r415, r416⟩ := ReportE_R.1 hR407
    refine s_lda rfl hC408 Tryd.isAgg61 rfl Tryd.sizeOf61 rfl (y_al hI389 Tryd.zeroValue61 rfl rfl ?_)
    intro b417 w418 hI419 x420
    refine y_st 0 hI419 rfl rfl rfl rfl Tryd.sizeOf61 rfl rfl (on8 rfl rfl rfl rfl rfl rfl rfl rfl) ?_
    intro w421 hI422 x423
    have hC425 := hI422.freezeRow 0 rfl
    have hI424 := hI422.erase 0
    refine Reg.nil ?_
    obtain ⟨j426, h427, h397⟩ := bnd h397
    refine cw_keep [1, 2, 3, 11, 13, 17, 27, 29, 178, 179, 180] rfl (cw_seqD 0 (ι := Bool) (fun x428 => [(193, Value.bool x428)]) (fun x428 => fun w429 => w421 = w429 ∧ x428 = j426) ?_ ?_)
    ·refine cw_regF (s_fa rfl Tryd.underlying61 rfl Tryd.sizeOf3 rfl (s_ld rfl (hC425.cells.at 4 rfl) Tryd.isAgg3 rfl (s_mv rfl rfl (s_leq rfl rfl rfl (s_mv rfl rfl (Reg.gsplit (t := 188) rfl (fun hg432 => ?_) (fun hg432 => ?_)))))))
     ·replace h427 := cdT hg432 h427
      refine Reg.take rfl rfl (s_fa rfl Tryd.underlying61 rfl Tryd.sizeOf3 rfl (Reg.take rfl rfl (s_ld rfl (hC425.cells.at 2 rfl) Tryd.isAgg3 rfl (Reg.take rfl rfl (s_mv rfl rfl (Reg.take rfl rfl (s_eql rfl rfl rfl (s_pkT rfl rfl rfl (Reg.nil ?_)))))))))
      obtain rfl := Option.some.inj h427
      refine ⟨rfl, decide (y403.account = id), ⟨rfl, rfl⟩, sb12 rfl rfl rfl rfl rfl rfl rfl rfl rfl rfl rfl rfl⟩
     replace h427 := cdF hg432 h427
     iterate 4 refine Reg.pass rfl rfl rfl rfl ?_
     refine s_pkF rfl rfl rfl (Reg.nil ?_)
     obtain rfl := Option.some.inj h427
     refine ⟨rfl, false, ⟨rfl, rfl⟩, sb12 rfl rfl rfl rfl rfl rfl rfl rfl rfl rfl rfl rfl⟩
    rintro x428 _ ⟨rfl, rfl⟩
    obtain ⟨j433, h434, h397⟩ := bnd h397
    refine cw_keep [27, 29, 193, 1, 2, 3, 11, 13, 17, 178, 179, 180] rfl (cw_unitD 3 (ι := (List Report) × Value) (fun ⟨x435, v436⟩ => [(27, v436)]) (fun ⟨x435, v436⟩ => fun w437 => Hp w [] M [ownR [] ReportE 61 v436 x435, ownR [] ReportE 61 v372 z367, ownR [] ClashE 55 v341 z336, ownR [] ClashE 55 v332 z327, ownR [] ReportE 61 v28 x36] w437 ∧ Adv (mm [ownR [] ReportE 61 v385 x384, ownR [] ReportE 61 v372 z367, ownR [] ClashE 55 v341 z336, ownR [] ClashE 55 v332 z327, ownR [] ReportE 61 v28 x36] M) (mm [ownR [] ReportE 61 v436 x435, ownR [] ReportE 61 v372 z367, ownR [] ClashE 55 v341 z336, ownR [] ClashE 55 v332 z327, ownR [] ReportE 61 v28 x36] M) w421 w437 ∧ x435 = j433) ?_ ?_)
    ·refine cw_cond rfl (fun hc440 => ?_) (fun hc440 => ?_)
     ·replace h434 := cdT hc440 h434
      refine cw_regF (s_mv rfl rfl (s_lda rfl hC425.cells Tryd.isAgg61 rfl Tryd.sizeOf61 rfl (y_bs (E := ReportE) (xs := [(Report.mk y403.id y403.source y403.account y403.made y403.about y403.kind y403.cents y403.of_)]) sl22 hI424 rfl rfl (Cls.cons rfl Cls.nil) (Chs.cons ((ReportE_R (x := (Report.mk y403.id y403.source y403.account y403.made y403.about y403.kind y403.cents y403.of_))).2 ⟨rfl, r409, r410, r411, r412, r413, r414, r415, r416⟩) Chs.nil) rfl rfl ?_)))
      intro v441 w442 hI443 x444
      have hf445 := hI443.freeze 0 rfl
      have hI446 := hI443.erase 0
      obtain ⟨l447, hl447, h434⟩ := bnd h434
      obtain ⟨hbl447, el447⟩ := appo_out hl447
      refine y_app 0 sl22 hI446 rfl rfl rfl hf445 hbl447 rfl ?_
      rw [← el447]
      intro v448 w449 hI450 x451
      refine s_as rfl rfl (Reg.nil ?_)
      obtain rfl := Option.some.inj h434
      refine ⟨rfl, (l447, v448), ⟨hI450, (x444.trans ((hI443.eraseH 0).trans x451)), rfl⟩, sb10 rfl rfl rfl rfl rfl rfl rfl rfl rfl rfl⟩
     replace h434 := cdF hc440 h434
     refine cw_skip ?_
     obtain rfl := Option.some.inj h434
     refine ⟨rfl, (x384, v385), ⟨hI424, (Adv.refl _ _), rfl⟩, sb10 rfl rfl rfl rfl rfl rfl rfl rfl rfl rfl⟩
    rintro ⟨x435, v436⟩ w437 ⟨hI438, hA439, rfl⟩
    obtain rfl := Option.some.inj h397
    refine ⟨rfl, (x435, v436), ⟨hI438, (x420.trans (x423.trans ((hI422.eraseH 0).trans hA439))), rfl⟩, sb10 rfl rfl rfl rfl rfl rfl rfl rfl rfl rfl⟩
   rintro ⟨x398, v399⟩ w400 ⟨hI401, hA402, rfl⟩
   refine cw_regF ?_
   obtain ⟨n452, hn452, h393⟩ := bnd h393
   replace hn452 := chk_out hn452
   refine p_add rfl rfl rfl hn452 (s_mv rfl rfl (Reg.nil ?_))
   obtain rfl := Option.some.inj h393
   refine ⟨rfl, (x398, n452, v399), ⟨⟨hI401, (hA390.trans hA402), hn452.2⟩, rfl⟩, sb10 rfl rfl rfl rfl rfl rfl rfl rfl rfl rfl⟩
  replace h393 := cdF hc395 h393
  refine cw_exit (exB_same ?_)
  obtain rfl := Option.some.inj h393
  obtain rfl := hR394 _ rfl
  refine ⟨rfl, (x384, v385), ⟨hI389, hA390, rfl⟩, sb7 rfl rfl rfl rfl rfl rfl rfl⟩
 rintro ⟨x379, v380⟩ w381 ⟨hI382, hA383, rfl⟩
 refine cw_seq (cw_regF ?_)
 iterate 4 refine s_mv rfl rfl ?_
 have hf453 := hI382.freeze 0 rfl
 have hI454 := hI382.erase 0
 obtain ⟨⟨z455, z456⟩, hz457, h⟩ := bnd h
 refine s_call rfl Tryd.call20 rfl ((C_account_State hI454.mlt (hG.adv hI454.adv) hf453 f_id_0 f_day_0 f_known_0 hz457).mono ?_)
 rintro _ w458 ⟨v463, v468, v473, v478, v483, v488, rfl, r460, r461, r462, hf464, r465, r466, r467, hf469, r470, r471, r472, hf474, r475, r476, r477, hf479, r480, r481, r482, hf484, r485, r486, r487, hf489, r490, r491, r492, r493, e459⟩
 refine ⟨_, rfl, ?_⟩
 have hI494 := hI454.ext e459
 refine s_mv rfl rfl (s_xt rfl rfl rfl (s_xt rfl rfl rfl (y_al hI494 Tryd.zeroValue42 rfl rfl ?_)))
 intro b495 w496 hI497 x498
 refine y_st 0 hI497 rfl rfl rfl rfl Tryd.sizeOf42 rfl rfl (one1 rfl (one1 rfl (one1 rfl (one1 (RdS.oneC hf464) (one1 rfl (one1 rfl (one1 rfl (one1 (RdS.oneC hf469) (one1 rfl (one1 rfl (one1 rfl (one1 (RdS.oneC hf474) (one1 rfl (one1 rfl (one1 rfl (one1 (RdS.oneC hf479) (one1 rfl (one1 rfl (one1 rfl (one1 (RdS.oneC hf484) (one1 rfl (one1 rfl (one1 rfl (one1 (RdS.oneC hf489) (on3 rfl rfl rfl))))))))))))))))))))))))) ?_
 intro w499 hI500 x501
 have hC503 := hI500.freezeRow 0 rfl
 have hI502 := hI500.erase 0
 refine s_as rfl rfl (Reg.nil (cw_seq ?_))
 obtain ⟨j504, h505, h⟩ := bnd h
 refine cw_keep [30, 31, 1, 2, 3, 11, 13, 17] rfl (cw_seqD 2 (ι := Bool) (fun x506 => [(214, Value.bool x506)]) (fun x506 => fun w507 => Hp w [] M [ownR [] ReportE 61 v372 z367, ownR [] ClashE 55 v341 z336, ownR [] ClashE 55 v332 z327, ownR [] ReportE 61 v28 x36] w507 ∧ Adv (mm [ownR [] ReportE 61 v372 z367, ownR [] ClashE 55 v341 z336, ownR [] ClashE 55 v332 z327, ownR [] ReportE 61 v28 x36] M) (mm [ownR [] ReportE 61 v372 z367, ownR [] ClashE 55 v341 z336, ownR [] ClashE 55 v332 z327, ownR [] ReportE 61 v28 x36] M) w499 w507 ∧ x506 = j504) ?_ ?_)
 ·refine cw_regF (s_mv rfl rfl (s_neq rfl rfl rfl (s_mv rfl rfl (Reg.gsplit (t := 209) rfl (fun hg510 => ?_) (fun hg510 => ?_)))))
  ·replace h505 := cdT hg510 h505
   iterate 4 refine Reg.pass rfl rfl rfl rfl ?_
   refine s_pkT rfl rfl rfl (Reg.nil ?_)
   obtain rfl := Option.some.inj h505
   refine ⟨rfl, true, ⟨hI502, (Adv.refl _ _), rfl⟩, sb7 rfl rfl rfl rfl rfl rfl rfl⟩
  replace h505 := cdF hg510 h505
  refine Reg.take rfl rfl (s_lda rfl (hC275.adv ((hI274.eraseH 0).trans ((Adv.of_ext e282).trans (x321.trans (x324.trans ((hI323.eraseH 0).trans ((hI325.addOwnA e331 hf333).trans ((hI335.addOwnA e340 hf342).trans (hA350.trans ((hI349.addOwnA e371 hf373).trans (hA383.trans ((hI382.eraseH 0).trans ((Adv.of_ext e459).trans (x498.trans (x501.trans (hI500.eraseH 0)))))))))))))))).cells Tryd.isAgg42 rfl Tryd.sizeOf42 rfl (Reg.take rfl rfl (s_lda rfl hC503.cells Tryd.isAgg42 rfl Tryd.sizeOf42 rfl (Reg.take rfl rfl ?_))))
  obtain ⟨z511, hz512, h505⟩ := bnd h505
  refine s_call rfl Tryd.call24 rfl ((C_ref03_SameState (a := (State.mk (Told.mk z227.opened.known z227.opened.cents z227.opened.since z227.opened.by_) (Told.mk z227.limit.known z227.limit.cents z227.limit.since z227.limit.by_) (Told.mk z227.owed.known z227.owed.cents z227.owed.since z227.owed.by_) (Told.mk z227.late.known z227.late.cents z227.late.since z227.late.by_) (Told.mk z227.default.known z227.default.cents z227.default.since z227.default.by_) (Told.mk z227.closed.known z227.closed.cents z227.closed.since z227.closed.by_) (Span.mk z227.paid.lo z227.paid.hi) z227.is_)) (b := (State.mk (Told.mk z455.opened.known z455.opened.cents z455.opened.since z455.opened.by_) (Told.mk z455.limit.known z455.limit.cents z455.limit.since z455.limit.by_) (Told.mk z455.owed.known z455.owed.cents z455.owed.since z455.owed.by_) (Told.mk z455.late.known z455.late.cents z455.late.since z455.late.by_) (Told.mk z455.default.known z455.default.cents z455.default.since z455.default.by_) (Told.mk z455.closed.known z455.closed.cents z455.closed.since z455.closed.by_) (Span.mk z455.paid.lo z455.paid.hi) z455.is_)) hI502.mlt r232 r233 r234 (hf236.adv (x270.trans (x273.trans ((hI272.eraseH 0).trans ((hI274.eraseH 0).trans ((Adv.of_ext e282).trans (x321.trans (x324.trans ((hI323.eraseH 0).trans ((hI325.addOwnA e331 hf333).trans ((hI335.addOwnA e340 hf342).trans (hA350.trans ((hI349.addOwnA e371 hf373).trans (hA383.trans ((hI382.eraseH 0).trans ((Adv.of_ext e459).trans (x498.trans (x501.trans (hI500.eraseH 0))))))))))))))))))) r237 r238 r239 (hf241.adv (x270.trans (x273.trans ((hI272.eraseH 0).trans ((hI274.eraseH 0).trans ((Adv.of_ext e282).trans (x321.trans (x324.trans ((hI323.eraseH 0).trans ((hI325.addOwnA e331 hf333).trans ((hI335.addOwnA e340 hf342).trans (hA350.trans ((hI349.addOwnA e371 hf373).trans (hA383.trans ((hI382.eraseH 0).trans ((Adv.of_ext e459).trans (x498.trans (x501.trans (hI500.eraseH 0))))))))))))))))))) r242 r243 r244 (hf246.adv (x270.trans (x273.trans ((hI272.eraseH 0).trans ((hI274.eraseH 0).trans ((Adv.of_ext e282).trans (x321.trans (x324.trans ((hI323.eraseH 0).trans ((hI325.addOwnA e331 hf333).trans ((hI335.addOwnA e340 hf342).trans (hA350.trans ((hI349.addOwnA e371 hf373).trans (hA383.trans ((hI382.eraseH 0).trans ((Adv.of_ext e459).trans (x498.trans (x501.trans (hI500.eraseH 0))))))))))))))))))) r247 r248 r249 (hf251.adv (x270.trans (x273.trans ((hI272.eraseH 0).trans ((hI274.eraseH 0).trans ((Adv.of_ext e282).trans (x321.trans (x324.trans ((hI323.eraseH 0).trans ((hI325.addOwnA e331 hf333).trans ((hI335.addOwnA e340 hf342).trans (hA350.trans ((hI349.addOwnA e371 hf373).trans (hA383.trans ((hI382.eraseH 0).trans ((Adv.of_ext e459).trans (x498.trans (x501.trans (hI500.eraseH 0))))))))))))))))))) r252 r253 r254 (hf256.adv (x270.trans (x273.trans ((hI272.eraseH 0).trans ((hI274.eraseH 0).trans ((Adv.of_ext e282).trans (x321.trans (x324.trans ((hI323.eraseH 0).trans ((hI325.addOwnA e331 hf333).trans ((hI335.addOwnA e340 hf342).trans (hA350.trans ((hI349.addOwnA e371 hf373).trans (hA383.trans ((hI382.eraseH 0).trans ((Adv.of_ext e459).trans (x498.trans (x501.trans (hI500.eraseH 0))))))))))))))))))) r257 r258 r259 (hf261.adv (x270.trans (x273.trans ((hI272.eraseH 0).trans ((hI274.eraseH 0).trans ((Adv.of_ext e282).trans (x321.trans (x324.trans ((hI323.eraseH 0).trans ((hI325.addOwnA e331 hf333).trans ((hI335.addOwnA e340 hf342).trans (hA350.trans ((hI349.addOwnA e371 hf373).trans (hA383.trans ((hI382.eraseH 0).trans ((Adv.of_ext e459).trans (x498.trans (x501.trans (hI500.eraseH 0))))))))))))))))))) r262 r263 r264 r460 r461 r462 (hf464.adv (x498.trans (x501.trans (hI500.eraseH 0)))) r465 r466 r467 (hf469.adv (x498.trans (x501.trans (hI500.eraseH 0)))) r470 r471 r472 (hf474.adv (x498.trans (x501.trans (hI500.eraseH 0)))) r475 r476 r477 (hf479.adv (x498.trans (x501.trans (hI500.eraseH 0)))) r480 r481 r482 (hf484.adv (x498.trans (x501.trans (hI500.eraseH 0)))) r485 r486 r487 (hf489.adv (x498.trans (x501.trans (hI500.eraseH 0)))) r490 r491 r492 hz512).mono ?_)
  rintro _ w513 ⟨rfl, e514⟩
  refine ⟨_, rfl, ?_⟩
  have hI515 := hI502.ext e514
  refine Reg.take rfl rfl (s_not rfl rfl (s_pkF rfl rfl rfl (Reg.nil ?_)))
  obtain rfl := Option.some.inj h505
  refine ⟨rfl, !z511, ⟨hI515, (Adv.of_ext e514), rfl⟩, sb7 rfl rfl rfl rfl rfl rfl rfl⟩
 rintro x506 w507 ⟨hI508, hA509, rfl⟩
 refine cw_cond rfl (fun hc516 => ?_) (fun hc516 => ?_)
 ·replace h := cdT hc516 h
  refine cw_seq (cw_regF (s_as rfl rfl (Reg.nil (cw_ret ?_))))
  obtain rfl := Option.some.inj h
  refine fin1 Tryd.results7 rfl ?_
  exact ⟨rfl, hI508.kp⟩
 replace h := cdF hc516 h
 refine cw_skip (cw_seq (cw_seq (cw_regF (s_mv rfl rfl ?_))))
 obtain ⟨z517, hz518, h⟩ := bnd h
 refine s_call rfl Tryd.call18 rfl ((C_ref03_Check (hI508.sel [0, 1, 2] rfl).mlt (hI508.lendRd [0, 1, 2] 3 rfl rfl) hz518).mono ?_)
 rintro _ w519 ⟨rfl, r521, e520⟩
 refine ⟨_, rfl, ?_⟩
 have hI522 := hI508.ext e520
 refine s_neq rfl rfl rfl (Reg.nil (cw_cond rfl (fun hc523 => ?_) (fun hc523 => ?_)))
 ·replace h := cdT hc523 h
  refine cw_seq (cw_regF (s_mv rfl rfl (s_as rfl rfl (Reg.nil (cw_ret ?_)))))
  obtain rfl := Option.some.inj h
  refine fin1 Tryd.results7 rfl ?_
  exact ⟨rfl, hI522.kp⟩
 replace h := cdF hc523 h
 refine cw_skip (cw_seq (cw_regF ?_))
 iterate 4 refine s_mv rfl rfl ?_
 have hf524 := hI522.freeze 3 rfl
 have hI525 := hI522.erase 3
 obtain ⟨⟨z526, z527⟩, hz528, h⟩ := bnd h
 refine s_call rfl Tryd.call20 rfl ((C_account_State hI525.mlt (hG.adv hI525.adv) hf524 f_id_0 f_day_0 f_known_0 hz528).mono ?_)
 rintro _ w529 ⟨v534, v539, v544, v549, v554, v559, rfl, r531, r532, r533, hf535, r536, r537, r538, hf540, r541, r542, r543, hf545, r546, r547, r548, hf550, r551, r552, r553, hf555, r556, r557, r558, hf560, r561, r562, r563, r564, e530⟩
 refine ⟨_, rfl, ?_⟩
 have hI565 := hI525.ext e530
 refine s_mv rfl rfl (s_xt rfl rfl rfl (s_xt rfl rfl rfl (y_al hI565 Tryd.zeroValue42 rfl rfl ?_)))
 intro b566 w567 hI568 x569
 refine y_st 0 hI568 rfl rfl rfl rfl Tryd.sizeOf42 rfl rfl (one1 rfl (one1 rfl (one1 rfl (one1 (RdS.oneC hf535) (one1 rfl (one1 rfl (one1 rfl (one1 (RdS.oneC hf540) (one1 rfl (one1 rfl (one1 rfl (one1 (RdS.oneC hf545) (one1 rfl (one1 rfl (one1 rfl (one1 (RdS.oneC hf550) (one1 rfl (one1 rfl (one1 rfl (one1 (RdS.oneC hf555) (one1 rfl (one1 rfl (one1 rfl (one1 (RdS.oneC hf560) (on3 rfl rfl rfl))))))))))))))))))))))))) ?_
 intro w570 hI571 x572
 have hC574 := hI571.freezeRow 0 rfl
 have hI573 := hI571.erase 0
 refine s_as rfl rfl (Reg.nil ?_)
 obtain ⟨j575, h576, h⟩ := bnd h
 refine cw_keep [11, 17, 32, 33] rfl (cw_seqD 4 (ι := Bool) (fun x577 => [(10, Value.bool x577)]) (fun x577 => fun w578 => Hp w [] M [ownR [] ReportE 61 v372 z367, ownR [] ClashE 55 v341 z336, ownR [] ClashE 55 v332 z327] w578 ∧ Adv (mm [ownR [] ReportE 61 v372 z367, ownR [] ClashE 55 v341 z336, ownR [] ClashE 55 v332 z327] M) (mm [ownR [] ReportE 61 v372 z367, ownR [] ClashE 55 v341 z336, ownR [] ClashE 55 v332 z327] M) w570 w578 ∧ x577 = j575) ?_ ?_)
 ·refine cw_regF (s_mv rfl rfl (s_mv rfl rfl (Reg.gsplit (t := 228) rfl (fun hg581 => ?_) (fun hg581 => ?_))))
  ·replace h576 := cdT hg581 h576
   refine Reg.take rfl rfl (s_mv rfl rfl (Reg.take rfl rfl (s_eql rfl rfl rfl (s_pkT rfl rfl rfl (s_mv rfl rfl (Reg.gsplit (t := 232) rfl (fun hg582 => ?_) (fun hg582 => ?_)))))))
   ·replace h576 := cdT hg582 h576
    refine Reg.take rfl rfl (s_lda rfl (hC275.adv ((hI274.eraseH 0).trans ((Adv.of_ext e282).trans (x321.trans (x324.trans ((hI323.eraseH 0).trans ((hI325.addOwnA e331 hf333).trans ((hI335.addOwnA e340 hf342).trans (hA350.trans ((hI349.addOwnA e371 hf373).trans (hA383.trans ((hI382.eraseH 0).trans ((Adv.of_ext e459).trans (x498.trans (x501.trans ((hI500.eraseH 0).trans (hA509.trans ((Adv.of_ext e520).trans ((hI522.eraseH 3).trans ((Adv.of_ext e530).trans (x569.trans (x572.trans (hI571.eraseH 0))))))))))))))))))))))).cells Tryd.isAgg42 rfl Tryd.sizeOf42 rfl (Reg.take rfl rfl (s_lda rfl hC574.cells Tryd.isAgg42 rfl Tryd.sizeOf42 rfl (Reg.take rfl rfl ?_))))
    obtain ⟨z583, hz584, h576⟩ := bnd h576
    refine s_call rfl Tryd.call24 rfl ((C_ref03_SameState (a := (State.mk (Told.mk z227.opened.known z227.opened.cents z227.opened.since z227.opened.by_) (Told.mk z227.limit.known z227.limit.cents z227.limit.since z227.limit.by_) (Told.mk z227.owed.known z227.owed.cents z227.owed.since z227.owed.by_) (Told.mk z227.late.known z227.late.cents z227.late.since z227.late.by_) (Told.mk z227.default.known z227.default.cents z227.default.since z227.default.by_) (Told.mk z227.closed.known z227.closed.cents z227.closed.since z227.closed.by_) (Span.mk z227.paid.lo z227.paid.hi) z227.is_)) (b := (State.mk (Told.mk z526.opened.known z526.opened.cents z526.opened.since z526.opened.by_) (Told.mk z526.limit.known z526.limit.cents z526.limit.since z526.limit.by_) (Told.mk z526.owed.known z526.owed.cents z526.owed.since z526.owed.by_) (Told.mk z526.late.known z526.late.cents z526.late.since z526.late.by_) (Told.mk z526.default.known z526.default.cents z526.default.since z526.default.by_) (Told.mk z526.closed.known z526.closed.cents z526.closed.since z526.closed.by_) (Span.mk z526.paid.lo z526.paid.hi) z526.is_)) hI573.mlt r232 r233 r234 (hf236.adv (x270.trans (x273.trans ((hI272.eraseH 0).trans ((hI274.eraseH 0).trans ((Adv.of_ext e282).trans (x321.trans (x324.trans ((hI323.eraseH 0).trans ((hI325.addOwnA e331 hf333).trans ((hI335.addOwnA e340 hf342).trans (hA350.trans ((hI349.addOwnA e371 hf373).trans (hA383.trans ((hI382.eraseH 0).trans ((Adv.of_ext e459).trans (x498.trans (x501.trans ((hI500.eraseH 0).trans (hA509.trans ((Adv.of_ext e520).trans ((hI522.eraseH 3).trans ((Adv.of_ext e530).trans (x569.trans (x572.trans (hI571.eraseH 0)))))))))))))))))))))))))) r237 r238 r239 (hf241.adv (x270.trans (x273.trans ((hI272.eraseH 0).trans ((hI274.eraseH 0).trans ((Adv.of_ext e282).trans (x321.trans (x324.trans ((hI323.eraseH 0).trans ((hI325.addOwnA e331 hf333).trans ((hI335.addOwnA e340 hf342).trans (hA350.trans ((hI349.addOwnA e371 hf373).trans (hA383.trans ((hI382.eraseH 0).trans ((Adv.of_ext e459).trans (x498.trans (x501.trans ((hI500.eraseH 0).trans (hA509.trans ((Adv.of_ext e520).trans ((hI522.eraseH 3).trans ((Adv.of_ext e530).trans (x569.trans (x572.trans (hI571.eraseH 0)))))))))))))))))))))))))) r242 r243 r244 (hf246.adv (x270.trans (x273.trans ((hI272.eraseH 0).trans ((hI274.eraseH 0).trans ((Adv.of_ext e282).trans (x321.trans (x324.trans ((hI323.eraseH 0).trans ((hI325.addOwnA e331 hf333).trans ((hI335.addOwnA e340 hf342).trans (hA350.trans ((hI349.addOwnA e371 hf373).trans (hA383.trans ((hI382.eraseH 0).trans ((Adv.of_ext e459).trans (x498.trans (x501.trans ((hI500.eraseH 0).trans (hA509.trans ((Adv.of_ext e520).trans ((hI522.eraseH 3).trans ((Adv.of_ext e530).trans (x569.trans (x572.trans (hI571.eraseH 0)))))))))))))))))))))))))) r247 r248 r249 (hf251.adv (x270.trans (x273.trans ((hI272.eraseH 0).trans ((hI274.eraseH 0).trans ((Adv.of_ext e282).trans (x321.trans (x324.trans ((hI323.eraseH 0).trans ((hI325.addOwnA e331 hf333).trans ((hI335.addOwnA e340 hf342).trans (hA350.trans ((hI349.addOwnA e371 hf373).trans (hA383.trans ((hI382.eraseH 0).trans ((Adv.of_ext e459).trans (x498.trans (x501.trans ((hI500.eraseH 0).trans (hA509.trans ((Adv.of_ext e520).trans ((hI522.eraseH 3).trans ((Adv.of_ext e530).trans (x569.trans (x572.trans (hI571.eraseH 0)))))))))))))))))))))))))) r252 r253 r254 (hf256.adv (x270.trans (x273.trans ((hI272.eraseH 0).trans ((hI274.eraseH 0).trans ((Adv.of_ext e282).trans (x321.trans (x324.trans ((hI323.eraseH 0).trans ((hI325.addOwnA e331 hf333).trans ((hI335.addOwnA e340 hf342).trans (hA350.trans ((hI349.addOwnA e371 hf373).trans (hA383.trans ((hI382.eraseH 0).trans ((Adv.of_ext e459).trans (x498.trans (x501.trans ((hI500.eraseH 0).trans (hA509.trans ((Adv.of_ext e520).trans ((hI522.eraseH 3).trans ((Adv.of_ext e530).trans (x569.trans (x572.trans (hI571.eraseH 0)))))))))))))))))))))))))) r257 r258 r259 (hf261.adv (x270.trans (x273.trans ((hI272.eraseH 0).trans ((hI274.eraseH 0).trans ((Adv.of_ext e282).trans (x321.trans (x324.trans ((hI323.eraseH 0).trans ((hI325.addOwnA e331 hf333).trans ((hI335.addOwnA e340 hf342).trans (hA350.trans ((hI349.addOwnA e371 hf373).trans (hA383.trans ((hI382.eraseH 0).trans ((Adv.of_ext e459).trans (x498.trans (x501.trans ((hI500.eraseH 0).trans (hA509.trans ((Adv.of_ext e520).trans ((hI522.eraseH 3).trans ((Adv.of_ext e530).trans (x569.trans (x572.trans (hI571.eraseH 0)))))))))))))))))))))))))) r262 r263 r264 r531 r532 r533 (hf535.adv (x569.trans (x572.trans (hI571.eraseH 0)))) r536 r537 r538 (hf540.adv (x569.trans (x572.trans (hI571.eraseH 0)))) r541 r542 r543 (hf545.adv (x569.trans (x572.trans (hI571.eraseH 0)))) r546 r547 r548 (hf550.adv (x569.trans (x572.trans (hI571.eraseH 0)))) r551 r552 r553 (hf555.adv (x569.trans (x572.trans (hI571.eraseH 0)))) r556 r557 r558 (hf560.adv (x569.trans (x572.trans (hI571.eraseH 0)))) r561 r562 r563 hz584).mono ?_)
    rintro _ w585 ⟨rfl, e586⟩
    refine ⟨_, rfl, ?_⟩
    have hI587 := hI573.ext e586
    refine s_pkT rfl rfl rfl (s_as rfl rfl (Reg.nil ?_))
    obtain rfl := Option.some.inj h576
    refine ⟨rfl, z583, ⟨hI587, (Adv.of_ext e586), rfl⟩, sb1 rfl⟩
   replace h576 := cdF hg582 h576
   iterate 3 refine Reg.pass rfl rfl rfl rfl ?_
   refine s_pkF rfl rfl rfl (s_as rfl rfl (Reg.nil ?_))
   obtain rfl := Option.some.inj h576
   refine ⟨rfl, false, ⟨hI573, (Adv.refl _ _), rfl⟩, sb1 rfl⟩
  replace h576 := cdF hg581 h576
  refine Reg.pass rfl rfl rfl rfl (Reg.pass rfl rfl rfl rfl (s_pkF rfl rfl rfl (s_mv rfl rfl ?_)))
  iterate 3 refine Reg.pass rfl rfl rfl rfl ?_
  refine s_pkF rfl rfl rfl (s_as rfl rfl (Reg.nil ?_))
  obtain rfl := Option.some.inj h576
  refine ⟨rfl, false, ⟨hI573, (Adv.refl _ _), rfl⟩, sb1 rfl⟩
 rintro x577 w578 ⟨hI579, hA580, rfl⟩
 refine cw_ret ?_
 obtain rfl := Option.some.inj h
 refine fin1 Tryd.results7 rfl ?_
 exact ⟨rfl, hI579.kp⟩
end Go.Proofs.YtepjkmoipjeghaaDoor
namespace Go.Proofs.YtepjkmoipjeghaaDoor
open Go Go.Sx
namespace S
theorem set_mid {α : Type} {D : List α} {a x : α} : ∀ M : List α, (M ++ a :: D).set M.length x = M ++ x :: D
  | [] => rfl
  | m :: M => by rw [List.cons_append, List.length_cons, List.set_cons_succ, set_mid M]; rfl
/-- How far the lists are: those that were known, and all, with others in the place of those that were not. -/
def KI (l : List Report) (known : Int) (n : Nat) (p o : List Report) : Prop :=
  p = (l.take n).filter (fun r => decide (r.made ≤ known)) ∧ ∃ M, o = M ++ l.drop n ∧ M.length = n ∧ (∀ r, r ∈ M ∧ r.made ≤ known ↔ r ∈ l.take n ∧ r.made ≤ known) ∧ ∀ r ∈ M, InR r
theorem KI.zero {l : List Report} {known : Int} : KI l known 0 [] l := ⟨rfl, [], rfl, rfl, fun r => by simp, fun r hr => by cases hr⟩
section
variable {l : List Report} {known : Int} {n : Nat} {p o : List Report} (h : KI l known n p o) (hlt : n < l.length)
include h hlt
theorem KI.at : o[n]? = some l[n] := by
  obtain ⟨_, M, rfl, hM, _, _⟩ := h
  rw [List.getElem?_append_right (by omega), hM, Nat.sub_self, List.getElem?_drop, Nat.add_zero, List.getElem?_eq_getElem hlt]
theorem KI.len : n < o.length := get_lt (h.at hlt)
theorem KI.take (hin : InR l[n]) (e : l[n].made ≤ known) : KI l known (n + 1) (p ++ [l[n]]) o := by
  obtain ⟨rfl, M, rfl, hM, h3, h4⟩ := h
  refine ⟨by rw [take_snoc hlt, List.filter_append]; simp [e], M ++ [l[n]], by rw [List.drop_eq_getElem_cons hlt]; simp, by simp [hM], fun r => ?_, fun r hr => ?_⟩
  · rw [take_snoc hlt, List.mem_append, List.mem_append, or_and_right, or_and_right, h3 r]
  · rcases List.mem_append.1 hr with hr | hr
    · exact h4 r hr
    · obtain rfl : r = l[n] := by simpa using hr
      exact hin
theorem KI.put {z : Report} (hin : InR z) (hz : known < z.made) (e : ¬ l[n].made ≤ known) : KI l known (n + 1) p (o.set n z) := by
  obtain ⟨rfl, M, rfl, hM, h3, h4⟩ := h
  refine ⟨by rw [take_snoc hlt, List.filter_append]; simp [e], M ++ [z], ?_, by simp [hM], fun r => ?_, fun r hr => ?_⟩
  · rw [List.drop_eq_getElem_cons hlt]; subst hM; rw [set_mid]; simp
  · rw [take_snoc hlt, List.mem_append, List.mem_append, or_and_right, or_and_right, h3 r]
    refine or_congr Iff.rfl ⟨?_, ?_⟩
    · rintro ⟨hr, hm⟩
      obtain rfl : r = z := by simpa using hr
      omega
    · rintro ⟨hr, hm⟩
      obtain rfl : r = l[n] := by simpa using hr
      exact absurd hm e
  · rcases List.mem_append.1 hr with hr | hr
    · exact h4 r hr
    · obtain rfl : r = z := by simpa using hr
      exact hin
end
theorem p_AccountKnown {l : List Report} (hin : ∀ r ∈ l, InR r) {id day known : Int} (_ : InK .i64 id) (_ : InK .i64 day) (_ : InK .i64 known) {b : List Int} (hb : ∀ x ∈ b, 0 ≤ x ∧ x ≤ 4294967295) : P.law03_AccountKnown l id day known b = some true := by
  apply Ret.yes
  unfold P.law03_AccountKnown
  refine Ret.bind (Ret.val alive_is (Ret.bind (Ret.bind (r_ready hin (by simp) (Ret.condT rfl (Ret.ok (Ret.condT rfl (Ret.ok rfl)))) fun c hid hd => Ret.condF rfl (Ret.ok (Ret.condF rfl ?_))))))
  obtain ⟨hl, hV, hC⟩ := chk0 c
  have hkn : 0 ≤ known ∧ known ≤ 100000 := of_decide_eq_true (hd known (by simp))
  refine Ret.bind (Ret.appo (by simp; omega) (by simp; omega) ?_)
  rw [List.nil_append]
  refine Ret.bind (Ret.loop (fun t : List Report × Int × List Report => ∃ n : Nat, t.2.1 = n ∧ n ≤ l.length ∧ KI l known n t.1 t.2.2) (fun t => l.length - t.2.1.toNat) ⟨0, rfl, Nat.zero_le _, KI.zero⟩ ?_)
  rintro ⟨p, _, o⟩ ⟨n, rfl, hn, hI⟩
  dsimp only at hI ⊢
  refine Ret.cond (fun h => ?_) fun h => ?_
  · have hlt : n < l.length := by have := of_decide_eq_true h; omega
    have hy := hI.at hlt
    have hlo := hI.len hlt
    have hp : p.length ≤ l.length := by
      obtain ⟨rfl, _⟩ := hI
      refine Nat.le_trans (List.length_filter_le _ _) ?_
      rw [List.length_take]; omega
    have iny : InR l[n] := hin _ (List.getElem_mem hlt)
    have vy : V l[n] := hV _ (List.getElem_mem hlt)
    have next : ∀ (p' o' : List Report), KI l known (n + 1) p' o' → ∀ Q : List Report × List Report → Prop, Ret (Option.bind (chk .i64 ((n : Int) + 1)) fun n193 => some (Sum.inl (p', n193, o') : (List Report × Int × List Report) ⊕ (List Report × List Report))) (Nxt (fun s' : List Report × Int × List Report => (∃ n : Nat, s'.2.1 = n ∧ n ≤ l.length ∧ KI l known n s'.1 s'.2.2) ∧ l.length - s'.2.1.toNat < l.length - (n : Int).toNat) Q) := fun p' o' hI' Q => Ret.bind (Ret.chk (by omega) (Ret.next ⟨⟨n + 1, by dsimp only; omega, by omega, hI'⟩, by dsimp only; omega⟩))
    refine Ret.bind (Ret.bind (Ret.ixo (List.getElem?_eq_getElem hlt) ?_))
    refine Ret.cond (fun e => ?_) fun e => ?_
    · exact Ret.bind (Ret.appo (by simp; omega) (by simp; omega) (Ret.ok (next _ _ (hI.take hlt iny (of_decide_eq_true e)) _)))
    · have e : ¬ l[n].made ≤ known := of_decide_eq_false e
      unfold V at vy
      refine Ret.bind (Ret.ixo hy (Ret.bind (r_choose hb (by omega) fun z z0 z1 => Ret.bind (Ret.remO z0 (by omega) (Ret.bind (Ret.chk (by omega) (Ret.bind (Ret.chk (by omega) ?_))))))))
      refine Ret.bind (r_choose hb (by omega) fun u u0 u1 => Ret.bind (Ret.remO u0 (by omega) (Ret.bind (Ret.chk (by omega) (Ret.bind (Ret.seto hlo (Ret.bind (Ret.seto (by simpa using hlo) ?_))))))))
      refine Ret.bind (Ret.chk (by omega) (Ret.bind (Ret.chk (by omega) (Ret.bind (r_choose hb (by omega) fun v v0 v1 => Ret.bind (Ret.chk (by omega) (Ret.bind (Ret.chk (by omega) (Ret.bind (Ret.remO v0 (by omega) ?_))))))))))
      have q0 : 0 ≤ v % (100000 - known) := Int.emod_nonneg _ (by omega)
      have q1 : v % (100000 - known) < 100000 - known := Int.emod_lt_of_pos _ (by omega)
      obtain ⟨q, hq⟩ : ∃ q, v % (100000 - known) = q := ⟨_, rfl⟩
      rw [hq] at q0 q1 ⊢
      refine Ret.bind (Ret.chk (by omega) (Ret.bind (Ret.seto (by simpa using hlo) ?_)))
      simp only [List.set_set]
      have iz : ∀ a, 0 ≤ a ∧ a ≤ 100000 → InR ⟨l[n].id, z % 1000, u % 10, known + 1 + q, a, l[n].kind, l[n].cents, l[n].of_⟩ := fun a ha => by
        have hm := most_le l[n].kind
        refine ⟨iny.1, ?_, ?_, ?_, ?_, iny.2.2.2.2.2.1, iny.2.2.2.2.2.2.1, iny.2.2.2.2.2.2.2⟩ <;> rw [InK.i64] <;> dsimp only <;> omega
      refine Ret.bind (Ret.cond (fun h7 => ?_) fun h7 => Ret.ok (Ret.ok (next _ _ (hI.put hlt (iz _ vy.2.2.2.2.2.2.1) (by dsimp only; omega) e) _)))
      refine Ret.bind (Ret.chk (by omega) (Ret.bind (r_choose hb (by omega) fun x x0 x1 => Ret.bind (Ret.chk (by omega) (Ret.bind (Ret.remO x0 (by omega) (Ret.bind (Ret.seto (by simpa using hlo) ?_))))))))
      simp only [List.set_set]
      exact Ret.ok (Ret.ok (next _ _ (hI.put hlt (iz _ (by omega)) (by dsimp only; omega) e) _))
  · have hge : n = l.length := by have := of_decide_eq_false h; omega
    subst hge
    refine Ret.done ?_
    obtain ⟨rfl, M, rfl, _, hM, hMi⟩ := hI
    rw [List.drop_length, List.append_nil]
    rw [List.take_length] at hM ⊢
    have hpm : ∀ r, r ∈ l.filter (fun r => decide (r.made ≤ known)) ↔ r ∈ l ∧ r.made ≤ known := fun r => by rw [List.mem_filter, decide_eq_true_eq]
    have hin' : ∀ r ∈ l.filter (fun r => decide (r.made ≤ known)), InR r := fun r hr => hin r ((hpm r).1 hr).1
    have c' : chkE (l.filter fun r => decide (r.made ≤ known)) = 0 := chk_mem c (Nat.le_trans (List.length_filter_le _ _) hl) fun r hr => ((hpm r).1 hr).1
    have e : ∀ r, r ∈ l.filter (fun r => decide (r.made ≤ known)) ∧ r.made ≤ known ↔ r ∈ l ∧ r.made ≤ known := fun r => by rw [hpm]; exact ⟨fun h => h.1, fun h => ⟨h, h.2⟩⟩
    refine Ret.bind (r_State1 hin c (in3 hid hd) fun F hF => Ret.bind (r_State1 hin' c' (in3 hid hd) fun F' hF' => ?_))
    obtain rfl := hF'.uniq hF e
    refine Ret.bind (r_Clashes1 hin c (in2 hid hd) fun G hG => Ret.bind (r_Clashes1 hin' c' (in2 hid hd) fun G' hG' => ?_))
    obtain rfl := hG.uniq hF fun r => Iff.rfl
    obtain rfl := hG'.uniq hF e
    have fo := hF.fo
    have f2 := few_cl' (fo.filter (ofA id 100000))
    have f3 := fo.len
    dsimp only
    refine Ret.bind (Ret.condF rfl (Ret.condF rfl (Ret.condF rfl (Ret.condF rfl ?_))))
    refine Ret.bind (Ret.val (r_sameS (few_st (fo.filter _))) (Ret.condF rfl ?_))
    refine Ret.bind (Ret.val (r_sameC f2.1 f2.2) (Ret.ok (Ret.condF rfl ?_)))
    refine Ret.bind (r_Standing1 hin c (hd known (by simp)) fun G3 hG3 => Ret.condF rfl ?_)
    obtain rfl := hG3.uniq hF fun r => Iff.rfl
    dsimp only
    refine Ret.bind (Ret.loop (fun t : List Report × Int => ∃ n : Nat, t.2 = n ∧ n ≤ G3.length ∧ t.1 = (G3.take n).filter (ofA id day)) (fun t => G3.length - t.2.toNat) ⟨0, rfl, Nat.zero_le _, rfl⟩ ?_)
    rintro ⟨f, _⟩ ⟨n, rfl, hn, rfl⟩
    dsimp only
    refine Ret.cond (fun h => ?_) fun h => ?_
    · have hlt : n < G3.length := by have := of_decide_eq_true h; omega
      have hfl : ((G3.take n).filter (ofA id day)).length ≤ G3.length := by
        refine Nat.le_trans (List.length_filter_le _ _) ?_
        rw [List.length_take]; omega
      refine Ret.bind (Ret.bind (Ret.ixo (List.getElem?_eq_getElem hlt) ?_))
      have next : ∀ (p' : List Report), p' = (G3.take (n + 1)).filter (ofA id day) → ∀ Q : List Report → Prop, Ret (Option.bind (chk .i64 ((n : Int) + 1)) fun n193 => some (Sum.inl (p', n193) : (List Report × Int) ⊕ List Report)) (Nxt (fun s' : List Report × Int => (∃ n : Nat, s'.2 = n ∧ n ≤ G3.length ∧ s'.1 = (G3.take n).filter (ofA id day)) ∧ G3.length - s'.2.toNat < G3.length - (n : Int).toNat) Q) := fun p' hp' Q => Ret.bind (Ret.chk (by omega) (Ret.next ⟨⟨n + 1, by dsimp only; omega, by omega, hp'⟩, by dsimp only; omega⟩))
      have stay : ofA id day G3[n] = false → (G3.take n).filter (ofA id day) = (G3.take (n + 1)).filter (ofA id day) := fun h => by
        rw [take_snoc hlt, List.filter_append]; simp [h]
      refine Ret.bind (Ret.cond (fun h1 => Ret.ok ?_) fun h1 => Ret.ok (Ret.bind (Ret.condF rfl (Ret.ok (Ret.ok (next _ (stay (by unfold ofA; rw [h1, Bool.and_false])) _))))))
      refine Ret.bind (Ret.cond (fun h2 => ?_) fun h2 => Ret.ok (Ret.ok (next _ (stay (by unfold ofA; rw [h2, Bool.false_and])) _)))
      refine Ret.bind (Ret.appo (by simp at hfl ⊢; omega) (by simp at hfl ⊢; omega) (Ret.ok (Ret.ok (next _ ?_ _))))
      rw [eta, take_snoc hlt, List.filter_append]
      have : ofA id day G3[n] = true := by unfold ofA; rw [h1, h2]; rfl
      simp [this]
    · have hge : n = G3.length := by have := of_decide_eq_false h; omega
      subst hge
      rw [List.take_length]
      refine Ret.done ?_
      obtain ⟨cs, fs⟩ := hF.self (List.filter_sublist (p := ofA id day))
      refine Ret.bind (r_State1 (fun r hr => (hF.v (List.mem_filter.1 hr).1).1.inR) cs (in3 hid hd) fun F4 hF4 => ?_)
      obtain rfl := hF4.uniq fs fun r => Iff.rfl
      have same : (G3.filter (ofA id day)).filter (ofA id day) = G3.filter (ofA id day) := List.filter_eq_self.2 fun r hr => (List.mem_filter.1 hr).2
      rw [same]
      dsimp only
      refine Ret.bind (Ret.condF rfl ?_)
      refine Ret.bind (Ret.val (r_sameS (few_st (fo.filter _))) (Ret.ok (Ret.condF rfl ?_)))
      refine Ret.bind (r_rcheck hMi (Ret.cond (fun _ => Ret.ok rfl) fun h9 => ?_))
      have c9 : chkE M = 0 := by simpa using h9
      refine Ret.bind (r_State1 hMi c9 (in3 hid hd) fun F5 hF5 => ?_)
      obtain rfl := hF5.uniq hF hM
      dsimp only
      exact Ret.bind (Ret.condT rfl (Ret.condT rfl (Ret.bind (Ret.val (r_sameS (few_st (fo.filter _))) (Ret.ok (Ret.ok rfl))))))
end S
end Go.Proofs.YtepjkmoipjeghaaDoor
