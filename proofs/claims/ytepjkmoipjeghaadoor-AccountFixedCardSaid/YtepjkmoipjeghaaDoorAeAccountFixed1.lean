/-
  Part AccountFixed 1 of the texts that the statement's proof stands on: what memory holds, how code is walked, what the functions reckon. In the order in which they build.
-/
import Derived.Test.YtepjkmoipjeghaaDoorProg
import Derived.Test.YtepjkmoipjeghaaDoorAe9
set_option linter.unusedVariables false
set_option linter.unusedSectionVars false
set_option maxRecDepth 20000
set_option maxHeartbeats 4000000
namespace Go.Proofs.YtepjkmoipjeghaaDoor
open Go Go.Sx Go.RowKit
noncomputable def P.law03_AccountFixed (l : (List Report)) (id : Int) (day : Int) (known : Int) (which : Int) : Option Bool :=
  Option.bind (P.law03_alive ) fun z1 => Option.bind (Option.bind (P.law03_ready l id ([day, known] : List Int)) fun z10 => cond (!z10) (some true) (cond (decide ((l.length : Int) = 0)) (some true) (some (!z1)))) fun x17 => cond x17 (some z1) (Option.bind (chk .i64 which) fun n19 => Option.bind (remO n19 (l.length : Int)) fun n20 => Option.bind (ixo l n20) fun y21 => Option.bind (P.account_Fate l y21.id known) fun (z44, z45, z46) => Option.bind (cond (!decide (z46 = 0)) (some true) (some (!decide (z44 = 1)))) fun x55 => cond x55 (Option.bind (cond z1 (cond (decide (z46 = 0)) (some true) (some (decide (z46 = 6)))) (some false)) fun x59 => some x59) (Option.bind (P.law03_find l z45) fun (z60, z61) => Option.bind (P.account_Fate l z45 known) fun (z83, z84, z85) => Option.bind (cond (!z61) (some true) (cond (!decide (z60.kind = 8)) (some true) (cond (!decide (z60.of_ = y21.id)) (some true) (cond (!decide (z60.source = y21.source)) (some true) (cond (!decide (z60.account = y21.account)) (some true) (cond (!decide (z85 = 0)) (some true) (cond (!decide (z83 = 4)) (some true) (some (!decide (z84 = (-1))))))))))) fun x100 => cond x100 (some false) (Option.bind (loopM (S := (List Report) × Int) (R := ((List Report))) (fun (x102, x103) => cond (decide (x103 < (l.length : Int))) (Option.bind (Option.bind (ixo l x103) fun y105 => Option.bind (cond (decide (y105.kind = 8)) (some (decide (y105.of_ = y21.id))) (some false)) fun x127 => cond x127 (some x102) (Option.bind (Option.bind (cond (decide (y105.id = y21.id)) (Option.bind (some (z60.about, z60.cents)) fun (x155, x156) => some (x155, x156)) (some (y105.about, y105.cents))) fun (x157, x158) => some (x157, x158)) fun (x159, x160) => Option.bind (appo 64 x102 ([(Report.mk y105.id y105.source y105.account y105.made x159 y105.kind x160 y105.of_)] : List Report)) fun l167 => some l167)) fun x172 => Option.bind (chk .i64 (x103 + 1)) fun n173 => some (.inl (x172, n173))) (some (.inr x102))) ([], 0)) fun x174 => Option.bind (P.account_State l id day known) fun (z175, z176) => Option.bind (P.account_State x174 id day known) fun (z226, z227) => Option.bind (P.account_Standing l known) fun (z275, z276) => Option.bind (P.account_Standing x174 known) fun (z284, z285) => Option.bind (cond z1 (cond (decide (z176 = 0)) (cond (decide (z227 = 0)) (cond (decide (z276 = 0)) (cond (decide (z285 = 0)) (Option.bind (P.ref03_SameState (State.mk (Told.mk z175.opened.known z175.opened.cents z175.opened.since z175.opened.by_) (Told.mk z175.limit.known z175.limit.cents z175.limit.since z175.limit.by_) (Told.mk z175.owed.known z175.owed.cents z175.owed.since z175.owed.by_) (Told.mk z175.late.known z175.late.cents z175.late.since z175.late.by_) (Told.mk z175.default.known z175.default.cents z175.default.since z175.default.by_) (Told.mk z175.closed.known z175.closed.cents z175.closed.since z175.closed.by_) (Span.mk z175.paid.lo z175.paid.hi) z175.is_) (State.mk (Told.mk z226.opened.known z226.opened.cents z226.opened.since z226.opened.by_) (Told.mk z226.limit.known z226.limit.cents z226.limit.since z226.limit.by_) (Told.mk z226.owed.known z226.owed.cents z226.owed.since z226.owed.by_) (Told.mk z226.late.known z226.late.cents z226.late.since z226.late.by_) (Told.mk z226.default.known z226.default.cents z226.default.since z226.default.by_) (Told.mk z226.closed.known z226.closed.cents z226.closed.since z226.closed.by_) (Span.mk z226.paid.lo z226.paid.hi) z226.is_)) fun z298 => cond z298 (Option.bind (P.ref03_SameReports z275 z284) fun z304 => some z304) (some false)) (some false)) (some false)) (some false)) (some false)) (some false)) fun x309 => some x309)))
theorem C_law03_AccountFixed {M : List Nat} {w : World} (hM : MLt M w) (hG : RdC M w 0 0 (glob0.map (Value.int .i64))) {l : (List Report)} {v_l_0 : Value} (f_l_0 : RdS ReportE M w v_l_0 l) {id : Int} (f_id_0 : InK .i64 id) {day : Int} (f_day_0 : InK .i64 day) {known : Int} (f_known_0 : InK .i64 known) {which : Int} (f_which_0 : InK .u8 which) {r0 : Bool} (h : P.law03_AccountFixed l id day known which = some r0) :
  Calls Tryd.prog 10 (List.toArray [v_l_0, vi id, vi day, vi known, vu which]) w fun e w' => e = .returned (Value.bool r0) ∧ Ext w w' := by
 have hI := Hp.start (Mu := []) hM
 refine calls_cw Tryd.func10 rfl Tryd.ntmps10 rfl ?_
 refine cw_seq (cw_regF (s_as rfl rfl (Reg.nil (cw_seq (cw_regF ?_)))))
 obtain ⟨z1, hz2, h⟩ := bnd h
 refine s_call rfl Tryd.call26 rfl ((C_law03_alive hI.mlt hG hz2).mono ?_)
 rintro _ w3 ⟨rfl, e4⟩
 refine ⟨_, rfl, ?_⟩
 have hI5 := hI.ext e4
 refine s_as rfl rfl (Reg.nil (cw_seq ?_))
 obtain ⟨j6, h7, h⟩ := bnd h
 refine cw_keep [0, 1, 2, 3, 4, 11] rfl (cw_seqD 0 (ι := Bool) (fun x8 => [(48, Value.bool x8)]) (fun x8 => fun w9 => Hp w [] M [] w9 ∧ Adv (mm [] M) (mm [] M) w3 w9 ∧ x8 = j6) ?_ ?_)
 ·refine cw_regF ?_
  iterate 4 refine s_mv rfl rfl ?_
  refine y_bs (E := (intE .i64)) (xs := [day, known]) sl36 hI5 rfl rfl (Cls.cons rfl (Cls.cons rfl Cls.nil)) (Chs.cons ⟨rfl, f_day_0⟩ (Chs.cons ⟨rfl, f_known_0⟩ Chs.nil)) rfl rfl ?_
  intro v12 w13 hI14 x15
  obtain ⟨z16, hz17, h7⟩ := bnd h7
  refine s_call rfl Tryd.call30 rfl ((C_law03_ready (hI14.sel [] rfl).mlt ((f_l_0.adv hI14.adv).adv (Hp.selA (σ := [ownR [] (intE .i64) 3 v12 ([day, known] : List Int)]) [])) f_id_0 (hI14.lendRd [] 0 rfl rfl) hz17).mono ?_)
  rintro _ w18 ⟨rfl, e19⟩
  refine ⟨_, rfl, ?_⟩
  have hI20 := hI14.ext e19
  refine s_not rfl rfl (s_mv rfl rfl (Reg.gsplit (t := 40) rfl (fun hg21 => ?_) (fun hg21 => ?_)))
  ·replace h7 := cdT hg21 h7
   iterate 3 refine Reg.pass rfl rfl rfl rfl ?_
   refine s_pkT rfl rfl rfl (s_mv rfl rfl (Reg.pass rfl rfl rfl rfl (Reg.pass rfl rfl rfl rfl (s_pkT rfl rfl rfl (Reg.nil ?_)))))
   obtain rfl := Option.some.inj h7
   refine ⟨rfl, true, ⟨(hI20.sel [] rfl), ((x15.trans (Adv.of_ext e19)).trans (Hp.selA (σ := [ownR [] (intE .i64) 3 v12 ([day, known] : List Int)]) [])), rfl⟩, sb7 rfl rfl rfl rfl rfl rfl rfl⟩
  replace h7 := cdF hg21 h7
  refine Reg.take rfl rfl (s_mv rfl rfl (Reg.take rfl rfl (s_len rfl (f_l_0.adv hI20.adv) Tryd.underlying22 rfl (Reg.take rfl rfl (s_eql rfl rfl rfl (s_pkF rfl rfl rfl (s_mv rfl rfl (Reg.gsplit (t := 45) rfl (fun hg22 => ?_) (fun hg22 => ?_)))))))))
  ·replace h7 := cdT hg22 h7
   refine Reg.pass rfl rfl rfl rfl (Reg.pass rfl rfl rfl rfl (s_pkT rfl rfl rfl (Reg.nil ?_)))
   obtain rfl := Option.some.inj h7
   refine ⟨rfl, true, ⟨(hI20.sel [] rfl), ((x15.trans (Adv.of_ext e19)).trans (Hp.selA (σ := [ownR [] (intE .i64) 3 v12 ([day, known] : List Int)]) [])), rfl⟩, sb7 rfl rfl rfl rfl rfl rfl rfl⟩
  replace h7 := cdF hg22 h7
  refine Reg.take rfl rfl (s_mv rfl rfl (Reg.take rfl rfl (s_not rfl rfl (s_pkF rfl rfl rfl (Reg.nil ?_)))))
  obtain rfl := Option.some.inj h7
  refine ⟨rfl, !z1, ⟨(hI20.sel [] rfl), ((x15.trans (Adv.of_ext e19)).trans (Hp.selA (σ := [ownR [] (intE .i64) 3 v12 ([day, known] : List Int)]) [])), rfl⟩, sb7 rfl rfl rfl rfl rfl rfl rfl⟩
 rintro x8 w9 ⟨hI10, hA11, rfl⟩
 refine cw_cond rfl (fun hc23 => ?_) (fun hc23 => ?_)
 ·replace h := cdT hc23 h
  refine cw_seq (cw_regF (s_mv rfl rfl (s_as rfl rfl (Reg.nil (cw_ret ?_)))))
  obtain rfl := Option.some.inj h
  refine fin1 Tryd.results10 rfl ?_
  exact ⟨rfl, hI10.kp⟩
 replace h := cdF hc23 h
 refine cw_skip (cw_seq (cw_regF (s_mv rfl rfl (s_mv rfl rfl ?_))))
 obtain ⟨n24, hn24, h⟩ := bnd h
 replace hn24 := chk_out hn24
 refine p_cvt rfl Tryd.underlying5 Tryd.underlying3 rfl hn24 ?_
 refine s_mv rfl rfl (s_len rfl (f_l_0.adv hI10.adv) Tryd.underlying22 rfl ?_)
 obtain ⟨n25, hn25, h⟩ := bnd h
 have kn25 := remO_out hn25
 refine p_rem rfl rfl rfl kn25 ?_
 obtain ⟨y26, hy26, h⟩ := bnd h
 refine p_ia rfl rfl (f_l_0.adv hI10.adv) hy26 Tryd.underlying22 Tryd.sizeOf61 rfl ?_
 intro b27 o28 cs29 hR30 hC31
 obtain ⟨rfl, r32, r33, r34, r35, r36, r37, r38, r39⟩ := ReportE_R.1 hR30
 refine s_lda rfl hC31.cells Tryd.isAgg61 rfl Tryd.sizeOf61 rfl (y_al hI10 Tryd.zeroValue61 rfl rfl ?_)
 intro b40 w41 hI42 x43
 refine y_st 0 hI42 rfl rfl rfl rfl Tryd.sizeOf61 rfl rfl (on8 rfl rfl rfl rfl rfl rfl rfl rfl) ?_
 intro w44 hI45 x46
 have hC48 := hI45.freezeRow 0 rfl
 have hI47 := hI45.erase 0
 refine Reg.nil (cw_seq (cw_regF (s_mv rfl rfl (s_fa rfl Tryd.underlying61 rfl Tryd.sizeOf3 rfl (s_ld rfl (hC48.cells.at 0 rfl) Tryd.isAgg3 rfl (s_mv rfl rfl ?_))))))
 obtain ⟨⟨z49, z50, z51⟩, hz52, h⟩ := bnd h
 refine s_call rfl Tryd.call15 rfl ((C_account_Fate hI47.mlt (hG.adv hI47.adv) (f_l_0.adv hI47.adv) r32 f_known_0 hz52).mono ?_)
 rintro _ w53 ⟨rfl, r55, r56, r57, e54⟩
 refine ⟨_, rfl, ?_⟩
 have hI58 := hI47.ext e54
 refine s_mv rfl rfl ?_
 iterate 3 refine s_xt rfl rfl rfl ?_
 iterate 3 refine s_as rfl rfl ?_
 refine Reg.nil (cw_seq ?_)
 obtain ⟨j59, h60, h⟩ := bnd h
 refine cw_keep [13, 0, 1, 2, 3, 11, 12, 14, 15] rfl (cw_seqD 1 (ι := Bool) (fun x61 => [(72, Value.bool x61)]) (fun x61 => fun w62 => w53 = w62 ∧ x61 = j59) ?_ ?_)
 ·refine cw_regF (s_mv rfl rfl (s_neq rfl rfl rfl (s_mv rfl rfl (Reg.gsplit (t := 69) rfl (fun hg65 => ?_) (fun hg65 => ?_)))))
  ·replace h60 := cdT hg65 h60
   refine Reg.pass rfl rfl rfl rfl (Reg.pass rfl rfl rfl rfl (s_pkT rfl rfl rfl (Reg.nil ?_)))
   obtain rfl := Option.some.inj h60
   refine ⟨rfl, true, ⟨rfl, rfl⟩, sb9 rfl rfl rfl rfl rfl rfl rfl rfl rfl⟩
  replace h60 := cdF hg65 h60
  refine Reg.take rfl rfl (s_mv rfl rfl (Reg.take rfl rfl (s_neq rfl rfl rfl (s_pkF rfl rfl rfl (Reg.nil ?_)))))
  obtain rfl := Option.some.inj h60
  refine ⟨rfl, !decide (z49 = 1), ⟨rfl, rfl⟩, sb9 rfl rfl rfl rfl rfl rfl rfl rfl rfl⟩
 rintro x61 _ ⟨rfl, rfl⟩
 refine cw_cond rfl (fun hc66 => ?_) (fun hc66 => ?_)
 ·replace h := cdT hc66 h
  obtain ⟨j67, h68, h⟩ := bnd h
  refine cw_keep [11, 15] rfl (cw_seqD 2 (ι := Bool) (fun x69 => [(10, Value.bool x69)]) (fun x69 => fun w70 => w53 = w70 ∧ x69 = j67) ?_ ?_)
  ·refine cw_regF (s_mv rfl rfl (s_mv rfl rfl (Reg.gsplit (t := 74) rfl (fun hg73 => ?_) (fun hg73 => ?_))))
   ·replace h68 := cdT hg73 h68
    refine Reg.take rfl rfl (s_mv rfl rfl (Reg.take rfl rfl (s_eql rfl rfl rfl (Reg.take rfl rfl (s_mv rfl rfl (Reg.gsplit (t := 77) rfl (fun hg74 => ?_) (fun hg74 => ?_)))))))
    ·replace h68 := cdT hg74 h68
     refine Reg.pass rfl rfl rfl rfl (Reg.pass rfl rfl rfl rfl (Reg.take rfl rfl (s_pkT rfl rfl rfl (s_pkT rfl rfl rfl (s_as rfl rfl (Reg.nil ?_))))))
     obtain rfl := Option.some.inj h68
     refine ⟨rfl, true, ⟨rfl, rfl⟩, sb1 rfl⟩
    replace h68 := cdF hg74 h68
    refine Reg.take rfl rfl (s_mv rfl rfl (Reg.take rfl rfl (s_eql rfl rfl rfl (Reg.take rfl rfl (s_pkF rfl rfl rfl (s_pkT rfl rfl rfl (s_as rfl rfl (Reg.nil ?_))))))))
    obtain rfl := Option.some.inj h68
    refine ⟨rfl, decide (z51 = 6), ⟨rfl, rfl⟩, sb1 rfl⟩
   replace h68 := cdF hg73 h68
   iterate 3 refine Reg.pass rfl rfl rfl rfl ?_
   refine Reg.passU rfl rfl rfl (Reg.passU rfl rfl rfl (Reg.pass rfl rfl rfl rfl (s_pkF rfl rfl rfl (s_as rfl rfl (Reg.nil ?_)))))
   obtain rfl := Option.some.inj h68
   refine ⟨rfl, false, ⟨rfl, rfl⟩, sb1 rfl⟩
  rintro x69 _ ⟨rfl, rfl⟩
  refine cw_ret ?_
  obtain rfl := Option.some.inj h
  refine fin1 Tryd.results10 rfl ?_
  exact ⟨rfl, hI58.kp⟩
 replace h := cdF hc66 h
 refine cw_skip (cw_seq (cw_regF (s_mv rfl rfl (s_mv rfl rfl ?_))))
 obtain ⟨⟨z75, z76⟩, hz77, h⟩ := bnd h
 refine s_call rfl Tryd.call33 rfl ((C_law03_find hI58.mlt (f_l_0.adv hI58.adv) r56 hz77).mono ?_)
 rintro _ w78 ⟨rfl, r80, r81, r82, r83, r84, r85, r86, r87, e79⟩
 refine ⟨_, rfl, ?_⟩
 have hI88 := hI58.ext e79
 refine s_mv rfl rfl (s_xt rfl rfl rfl (s_xt rfl rfl rfl (y_al hI88 Tryd.zeroValue61 rfl rfl ?_)))
 intro b89 w90 hI91 x92
 refine y_st 0 hI91 rfl rfl rfl rfl Tryd.sizeOf61 rfl rfl (on8 rfl rfl rfl rfl rfl rfl rfl rfl) ?_
 intro w93 hI94 x95
 have hC97 := hI94.freezeRow 0 rfl
 have hI96 := hI94.erase 0
 refine s_as rfl rfl (Reg.nil (cw_seq (cw_regF ?_)))
 iterate 3 refine s_mv rfl rfl ?_
 obtain ⟨⟨z98, z99, z100⟩, hz101, h⟩ := bnd h
 refine s_call rfl Tryd.call15 rfl ((C_account_Fate hI96.mlt (hG.adv hI96.adv) (f_l_0.adv hI96.adv) r56 f_known_0 hz101).mono ?_)
 rintro _ w102 ⟨rfl, r104, r105, r106, e103⟩
 refine ⟨_, rfl, ?_⟩
 have hI107 := hI96.ext e103
 refine s_mv rfl rfl ?_
 iterate 3 refine s_xt rfl rfl rfl ?_
 iterate 3 refine s_as rfl rfl ?_
 refine Reg.nil (cw_seq ?_)
 obtain ⟨j108, h109, h⟩ := bnd h
 refine cw_keep [17, 18, 19, 20, 0, 1, 2, 3, 11, 12, 16] rfl (cw_seqD 4 (ι := Bool) (fun x110 => [(135, Value.bool x110)]) (fun x110 => fun w111 => w102 = w111 ∧ x110 = j108) ?_ ?_)
 ·refine cw_regF (s_mv rfl rfl (s_not rfl rfl (s_mv rfl rfl (Reg.gsplit (t := 98) rfl (fun hg114 => ?_) (fun hg114 => ?_)))))
  ·replace h109 := cdT hg114 h109
   iterate 3 refine Reg.pass rfl rfl rfl rfl ?_
   refine s_pkT rfl rfl rfl (s_mv rfl rfl ?_)
   iterate 5 refine Reg.pass rfl rfl rfl rfl ?_
   refine s_pkT rfl rfl rfl (s_mv rfl rfl ?_)
   iterate 5 refine Reg.pass rfl rfl rfl rfl ?_
   refine s_pkT rfl rfl rfl (s_mv rfl rfl ?_)
   iterate 5 refine Reg.pass rfl rfl rfl rfl ?_
   refine s_pkT rfl rfl rfl (s_mv rfl rfl (Reg.pass rfl rfl rfl rfl (Reg.pass rfl rfl rfl rfl (s_pkT rfl rfl rfl (s_mv rfl rfl (Reg.pass rfl rfl rfl rfl (Reg.pass rfl rfl rfl rfl (s_pkT rfl rfl rfl (s_mv rfl rfl (Reg.pass rfl rfl rfl rfl (Reg.pass rfl rfl rfl rfl ?_)))))))))))
   refine s_pkT rfl rfl rfl (Reg.nil ?_)
   obtain rfl := Option.some.inj h109
   refine ⟨rfl, true, ⟨rfl, rfl⟩, sb8 rfl rfl rfl rfl rfl rfl rfl rfl⟩
  replace h109 := cdF hg114 h109
  refine Reg.take rfl rfl (s_fa rfl Tryd.underlying61 rfl Tryd.sizeOf5 rfl (Reg.take rfl rfl (s_ld rfl ((hC97.adv (Adv.of_ext e103)).cells.at 5 rfl) Tryd.isAgg5 rfl (Reg.take rfl rfl (s_neq rfl rfl rfl (s_pkF rfl rfl rfl (s_mv rfl rfl (Reg.gsplit (t := 103) rfl (fun hg115 => ?_) (fun hg115 => ?_)))))))))
  ·replace h109 := cdT hg115 h109
   iterate 5 refine Reg.pass rfl rfl rfl rfl ?_
   refine s_pkT rfl rfl rfl (s_mv rfl rfl ?_)
   iterate 5 refine Reg.pass rfl rfl rfl rfl ?_
   refine s_pkT rfl rfl rfl (s_mv rfl rfl ?_)
   iterate 5 refine Reg.pass rfl rfl rfl rfl ?_
   refine s_pkT rfl rfl rfl (s_mv rfl rfl (Reg.pass rfl rfl rfl rfl (Reg.pass rfl rfl rfl rfl (s_pkT rfl rfl rfl (s_mv rfl rfl (Reg.pass rfl rfl rfl rfl (Reg.pass rfl rfl rfl rfl (s_pkT rfl rfl rfl (s_mv rfl rfl (Reg.pass rfl rfl rfl rfl (Reg.pass rfl rfl rfl rfl ?_)))))))))))
   refine s_pkT rfl rfl rfl (Reg.nil ?_)
   obtain rfl := Option.some.inj h109
   refine ⟨rfl, true, ⟨rfl, rfl⟩, sb8 rfl rfl rfl rfl rfl rfl rfl rfl⟩
  replace h109 := cdF hg115 h109
  refine Reg.take rfl rfl (s_fa rfl Tryd.underlying61 rfl Tryd.sizeOf3 rfl (Reg.take rfl rfl (s_ld rfl ((hC97.adv (Adv.of_ext e103)).cells.at 7 rfl) Tryd.isAgg3 rfl (Reg.take rfl rfl (s_fa rfl Tryd.underlying61 rfl Tryd.sizeOf3 rfl (Reg.take rfl rfl (s_ld rfl ((hC48.adv ((Adv.of_ext e54).trans ((Adv.of_ext e79).trans (x92.trans (x95.trans ((hI94.eraseH 0).trans (Adv.of_ext e103))))))).cells.at 0 rfl) Tryd.isAgg3 rfl (Reg.take rfl rfl (s_neq rfl rfl rfl (s_pkF rfl rfl rfl (s_mv rfl rfl ?_)))))))))))
  refine Reg.gsplit (t := 110) rfl (fun hg116 => ?_) (fun hg116 => ?_)
  ·replace h109 := cdT hg116 h109
   iterate 5 refine Reg.pass rfl rfl rfl rfl ?_
   refine s_pkT rfl rfl rfl (s_mv rfl rfl ?_)
   iterate 5 refine Reg.pass rfl rfl rfl rfl ?_
   refine s_pkT rfl rfl rfl (s_mv rfl rfl (Reg.pass rfl rfl rfl rfl (Reg.pass rfl rfl rfl rfl (s_pkT rfl rfl rfl (s_mv rfl rfl (Reg.pass rfl rfl rfl rfl (Reg.pass rfl rfl rfl rfl (s_pkT rfl rfl rfl (s_mv rfl rfl (Reg.pass rfl rfl rfl rfl (Reg.pass rfl rfl rfl rfl ?_)))))))))))
   refine s_pkT rfl rfl rfl (Reg.nil ?_)
   obtain rfl := Option.some.inj h109
   refine ⟨rfl, true, ⟨rfl, rfl⟩, sb8 rfl rfl rfl rfl rfl rfl rfl rfl⟩
  replace h109 := cdF hg116 h109
  refine Reg.take rfl rfl (s_fa rfl Tryd.underlying61 rfl Tryd.sizeOf3 rfl (Reg.take rfl rfl (s_ld rfl ((hC97.adv (Adv.of_ext e103)).cells.at 1 rfl) Tryd.isAgg3 rfl (Reg.take rfl rfl (s_fa rfl Tryd.underlying61 rfl Tryd.sizeOf3 rfl (Reg.take rfl rfl (s_ld rfl ((hC48.adv ((Adv.of_ext e54).trans ((Adv.of_ext e79).trans (x92.trans (x95.trans ((hI94.eraseH 0).trans (Adv.of_ext e103))))))).cells.at 1 rfl) Tryd.isAgg3 rfl (Reg.take rfl rfl (s_neq rfl rfl rfl (s_pkF rfl rfl rfl (s_mv rfl rfl ?_)))))))))))
  refine Reg.gsplit (t := 117) rfl (fun hg117 => ?_) (fun hg117 => ?_)
  ·replace h109 := cdT hg117 h109
   iterate 5 refine Reg.pass rfl rfl rfl rfl ?_
   refine s_pkT rfl rfl rfl (s_mv rfl rfl (Reg.pass rfl rfl rfl rfl (Reg.pass rfl rfl rfl rfl (s_pkT rfl rfl rfl (s_mv rfl rfl (Reg.pass rfl rfl rfl rfl (Reg.pass rfl rfl rfl rfl (s_pkT rfl rfl rfl (s_mv rfl rfl (Reg.pass rfl rfl rfl rfl (Reg.pass rfl rfl rfl rfl ?_)))))))))))
   refine s_pkT rfl rfl rfl (Reg.nil ?_)
   obtain rfl := Option.some.inj h109
   refine ⟨rfl, true, ⟨rfl, rfl⟩, sb8 rfl rfl rfl rfl rfl rfl rfl rfl⟩
  replace h109 := cdF hg117 h109
  refine Reg.take rfl rfl (s_fa rfl Tryd.underlying61 rfl Tryd.sizeOf3 rfl (Reg.take rfl rfl (s_ld rfl ((hC97.adv (Adv.of_ext e103)).cells.at 2 rfl) Tryd.isAgg3 rfl (Reg.take rfl rfl (s_fa rfl Tryd.underlying61 rfl Tryd.sizeOf3 rfl (Reg.take rfl rfl (s_ld rfl ((hC48.adv ((Adv.of_ext e54).trans ((Adv.of_ext e79).trans (x92.trans (x95.trans ((hI94.eraseH 0).trans (Adv.of_ext e103))))))).cells.at 2 rfl) Tryd.isAgg3 rfl (Reg.take rfl rfl (s_neq rfl rfl rfl (s_pkF rfl rfl rfl (s_mv rfl rfl ?_)))))))))))
  refine Reg.gsplit (t := 124) rfl (fun hg118 => ?_) (fun hg118 => ?_)
  ·replace h109 := cdT hg118 h109
   refine Reg.pass rfl rfl rfl rfl (Reg.pass rfl rfl rfl rfl (s_pkT rfl rfl rfl (s_mv rfl rfl (Reg.pass rfl rfl rfl rfl (Reg.pass rfl rfl rfl rfl (s_pkT rfl rfl rfl (s_mv rfl rfl (Reg.pass rfl rfl rfl rfl (Reg.pass rfl rfl rfl rfl (s_pkT rfl rfl rfl (Reg.nil ?_)))))))))))
   obtain rfl := Option.some.inj h109
   refine ⟨rfl, true, ⟨rfl, rfl⟩, sb8 rfl rfl rfl rfl rfl rfl rfl rfl⟩
  replace h109 := cdF hg118 h109
  refine Reg.take rfl rfl (s_mv rfl rfl (Reg.take rfl rfl (s_neq rfl rfl rfl (s_pkF rfl rfl rfl (s_mv rfl rfl (Reg.gsplit (t := 128) rfl (fun hg119 => ?_) (fun hg119 => ?_)))))))
  ·replace h109 := cdT hg119 h109
   refine Reg.pass rfl rfl rfl rfl (Reg.pass rfl rfl rfl rfl (s_pkT rfl rfl rfl (s_mv rfl rfl (Reg.pass rfl rfl rfl rfl (Reg.pass rfl rfl rfl rfl (s_pkT rfl rfl rfl (Reg.nil ?_)))))))
   obtain rfl := Option.some.inj h109
   refine ⟨rfl, true, ⟨rfl, rfl⟩, sb8 rfl rfl rfl rfl rfl rfl rfl rfl⟩
  replace h109 := cdF hg119 h109
  refine Reg.take rfl rfl (s_mv rfl rfl (Reg.take rfl rfl (s_neq rfl rfl rfl (s_pkF rfl rfl rfl (s_mv rfl rfl (Reg.gsplit (t := 132) rfl (fun hg120 => ?_) (fun hg120 => ?_)))))))
  ·replace h109 := cdT hg120 h109
   refine Reg.pass rfl rfl rfl rfl (Reg.pass rfl rfl rfl rfl (s_pkT rfl rfl rfl (Reg.nil ?_)))
   obtain rfl := Option.some.inj h109
   refine ⟨rfl, true, ⟨rfl, rfl⟩, sb8 rfl rfl rfl rfl rfl rfl rfl rfl⟩
  replace h109 := cdF hg120 h109
  refine Reg.take rfl rfl (s_mv rfl rfl (Reg.take rfl rfl (s_neq rfl rfl rfl (s_pkF rfl rfl rfl (Reg.nil ?_)))))
  obtain rfl := Option.some.inj h109
  refine ⟨rfl, !decide (z99 = (-1)), ⟨rfl, rfl⟩, sb8 rfl rfl rfl rfl rfl rfl rfl rfl⟩
 rintro x110 _ ⟨rfl, rfl⟩
 refine cw_cond rfl (fun hc121 => ?_) (fun hc121 => ?_)
 ·replace h := cdT hc121 h
  refine cw_seq (cw_regF (s_as rfl rfl (Reg.nil (cw_ret ?_))))
  obtain rfl := Option.some.inj h
  refine fin1 Tryd.results10 rfl ?_
  exact ⟨rfl, hI107.kp⟩
 replace h := cdF hc121 h
 refine cw_skip (cw_seq (cw_regF (s_as rfl rfl (Reg.nil (cw_seq (cw_seq (cw_regF (s_mv rfl rfl (s_len rfl (f_l_0.adv hI107.adv) Tryd.underlying22 rfl (s_mv rfl rfl (Reg.nil ?_)))))))))))
 obtain ⟨j122, h123, h⟩ := bnd h
 refine cw_keep [12, 16, 21, 136, 137, 138, 0, 1, 2, 3, 11] rfl (cw_unitD 6 (ι := (List Report) × Value) (fun ⟨x124, v125⟩ => [(21, v125)]) (fun ⟨x124, v125⟩ => fun w126 => Hp w [] M [ownR [] ReportE 61 v125 x124] w126 ∧ Adv (mm [] M) (mm [ownR [] ReportE 61 v125 x124] M) w102 w126 ∧ x124 = j122) ?_ ?_)
 ·refine cw_block (cw_keep [21, 138, 0, 1, 2, 3, 11, 12, 16, 136, 137] rfl ?_)
  have hI136 := hI107.addNil ReportE 61
  refine cw_loopM 2 (ι := (List Report) × Int × Value) _ (fun ⟨x129, x131, v130⟩ => [(21, v130), (138, vi x131)]) (fun ⟨x129, x131, v130⟩ => (x129, x131)) (fun ⟨x129, x131, v130⟩ => fun w133 => Hp w [] M [ownR [] ReportE 61 v130 x129] w133 ∧ Adv (mm [] M) (mm [ownR [] ReportE 61 v130 x129] M) w102 w133 ∧ InK .i64 x131) (([] : List Report), 0, (vn)) h123 ⟨hI136, (hI107.addNilH ReportE 61), (by decide)⟩ (sb11 rfl rfl rfl rfl rfl rfl rfl rfl rfl rfl rfl) ?_
  rintro ⟨x129, x131, v130⟩ w133 ⟨hI134, hA135, r132⟩ y137 h138 hR139
  refine cw_seq (cw_regF (s_lss rfl rfl rfl (Reg.nil (cw_seq (cw_cond rfl (fun hc140 => ?_) (fun hc140 => ?_))))))
  ·replace h138 := cdT hc140 h138
   refine cw_skip ?_
   obtain ⟨j141, h142, h138⟩ := bnd h138
   refine cw_keep [21, 0, 1, 2, 3, 11, 12, 16, 136, 137, 138] rfl (cw_seqD 1 (ι := (List Report) × Value) (fun ⟨x143, v144⟩ => [(21, v144)]) (fun ⟨x143, v144⟩ => fun w145 => Hp w [] M [ownR [] ReportE 61 v144 x143] w145 ∧ Adv (mm [ownR [] ReportE 61 v130 x129] M) (mm [ownR [] ReportE 61 v144 x143] M) w133 w145 ∧ x143 = j141) ?_ ?_)
   ·refine cw_block (cw_seq (cw_regF ?_))
    obtain ⟨y148, hy148, h142⟩ := bnd h142
    refine p_ia rfl rfl (f_l_0.adv hI134.adv) hy148 Tryd.underlying22 Tryd.sizeOf61 rfl ?_
    intro b149 o150 cs151 hR152 hC153
    obtain ⟨rfl, r154, r155, r156, r157, r158, r159, r160, r161⟩ := ReportE_R.1 hR152
    refine s_lda rfl hC153.cells Tryd.isAgg61 rfl Tryd.sizeOf61 rfl (y_al hI134 Tryd.zeroValue61 rfl rfl ?_)
    intro b162 w163 hI164 x165
    refine y_st 0 hI164 rfl rfl rfl rfl Tryd.sizeOf61 rfl rfl (on8 rfl rfl rfl rfl rfl rfl rfl rfl) ?_
    intro w166 hI167 x168
    refine Reg.nil (cw_seq ?_)
    obtain ⟨j169, h170, h142⟩ := bnd h142
    refine cw_keep [0, 1, 2, 3, 11, 12, 16, 21, 23, 136, 137, 138] rfl (cw_seqD 0 (ι := Bool) (fun x171 => [(151, Value.bool x171)]) (fun x171 => fun w172 => w166 = w172 ∧ x171 = j169) ?_ ?_)
    ·refine cw_regF (s_fa rfl Tryd.underlying61 rfl Tryd.sizeOf5 rfl (s_ld rfl ((hI167.row 0 rfl).rd.cells.at 5 rfl) Tryd.isAgg5 rfl (s_eql rfl rfl rfl (s_mv rfl rfl (Reg.gsplit (t := 145) rfl (fun hg175 => ?_) (fun hg175 => ?_))))))
     ·replace h170 := cdT hg175 h170
      refine Reg.take rfl rfl (s_fa rfl Tryd.underlying61 rfl Tryd.sizeOf3 rfl (Reg.take rfl rfl (s_ld rfl ((hI167.row 0 rfl).rd.cells.at 7 rfl) Tryd.isAgg3 rfl (Reg.take rfl rfl (s_fa rfl Tryd.underlying61 rfl Tryd.sizeOf3 rfl (Reg.take rfl rfl (s_ld rfl ((hC48.adv ((Adv.of_ext e54).trans ((Adv.of_ext e79).trans (x92.trans (x95.trans ((hI94.eraseH 0).trans ((Adv.of_ext e103).trans (hA135.trans (x165.trans x168))))))))).cells.at 0 rfl) Tryd.isAgg3 rfl (Reg.take rfl rfl (s_eql rfl rfl rfl (s_pkT rfl rfl rfl (Reg.nil ?_)))))))))))
      obtain rfl := Option.some.inj h170
      refine ⟨rfl, decide (y148.of_ = y26.id), ⟨rfl, rfl⟩, Sub.cons rfl (sb12 rfl rfl rfl rfl rfl rfl rfl rfl rfl rfl rfl rfl)⟩
     replace h170 := cdF hg175 h170
     iterate 5 refine Reg.pass rfl rfl rfl rfl ?_
     refine s_pkF rfl rfl rfl (Reg.nil ?_)
     obtain rfl := Option.some.inj h170
     refine ⟨rfl, false, ⟨rfl, rfl⟩, Sub.cons rfl (sb12 rfl rfl rfl rfl rfl rfl rfl rfl rfl rfl rfl rfl)⟩
    rintro x171 _ ⟨rfl, rfl⟩
    refine cw_cond rfl (fun hc176 => ?_) (fun hc176 => ?_)
    ·replace h142 := cdT hc176 h142
     refine cw_exit (exB_same ?_)
     obtain rfl := Option.some.inj h142
     refine ⟨rfl, (x129, v130), ⟨(hI167.sel [1] rfl), ((x165.trans x168).trans (Hp.selA (σ := [rowR 61 b162 (vR y148), ownR [] ReportE 61 v130 x129]) [1])), rfl⟩, sb11 rfl rfl rfl rfl rfl rfl rfl rfl rfl rfl rfl⟩
    replace h142 := cdF hc176 h142
    refine cw_skip ?_
    obtain ⟨j177, h178, h142⟩ := bnd h142
    refine cw_keep [0, 1, 2, 3, 11, 12, 16, 21, 23, 136, 137, 138] rfl (cw_seqD 0 (ι := Int × Int) (fun ⟨x179, x181⟩ => []) (fun ⟨x179, x181⟩ => fun w183 => Hp w [] M [rowR 61 b162 [vi y148.id, vi y148.source, vi y148.account, vi y148.made, vi x179, vu y148.kind, vi x181, vi y148.of_], ownR [] ReportE 61 v130 x129] w183 ∧ Adv (mm [rowR 61 b162 (vR y148), ownR [] ReportE 61 v130 x129] M) (mm [rowR 61 b162 [vi y148.id, vi y148.source, vi y148.account, vi y148.made, vi x179, vu y148.kind, vi x181, vi y148.of_], ownR [] ReportE 61 v130 x129] M) w166 w183 ∧ InK .i64 x179 ∧ InK .i64 x181 ∧ (x179, x181) = j177) ?_ ?_)
    ·refine cw_seq (cw_regF (s_fa rfl Tryd.underlying61 rfl Tryd.sizeOf3 rfl (s_ld rfl ((hI167.row 0 rfl).rd.cells.at 0 rfl) Tryd.isAgg3 rfl (s_fa rfl Tryd.underlying61 rfl Tryd.sizeOf3 rfl (s_ld rfl ((hC48.adv ((Adv.of_ext e54).trans ((Adv.of_ext e79).trans (x92.trans (x95.trans ((hI94.eraseH 0).trans ((Adv.of_ext e103).trans (hA135.trans (x165.trans x168))))))))).cells.at 0 rfl) Tryd.isAgg3 rfl (s_eql rfl rfl rfl (Reg.nil ?_)))))))
     obtain ⟨j186, h187, h178⟩ := bnd h178
     refine cw_sub (L := [(156, _), (0, _), (1, _), (2, _), (3, _), (11, _), (12, _), (16, _), (21, _), (23, _), (136, _), (137, _), (138, _)]) (Sub.cons rfl (sb12 rfl rfl rfl rfl rfl rfl rfl rfl rfl rfl rfl rfl)) (cw_unitD 1 (ι := Int × Int) (fun ⟨x188, x190⟩ => []) (fun ⟨x188, x190⟩ => fun w192 => Hp w [] M [rowR 61 b162 [vi y148.id, vi y148.source, vi y148.account, vi y148.made, vi x188, vu y148.kind, vi x190, vi y148.of_], ownR [] ReportE 61 v130 x129] w192 ∧ Adv (mm [rowR 61 b162 (vR y148), ownR [] ReportE 61 v130 x129] M) (mm [rowR 61 b162 [vi y148.id, vi y148.source, vi y148.account, vi y148.made, vi x188, vu y148.kind, vi x190, vi y148.of_], ownR [] ReportE 61 v130 x129] M) w166 w192 ∧ InK .i64 x188 ∧ InK .i64 x190 ∧ (x188, x190) = j186) ?_ ?_)
     ·refine cw_cond rfl (fun hc195 => ?_) (fun hc195 => ?_)
      ·replace h187 := cdT hc195 h187
       obtain ⟨j196, h197, h187⟩ := bnd h187
       refine cw_keep [0, 1, 2, 3, 11, 12, 16, 21, 23, 136, 137, 138] rfl (cw_unitD 0 (ι := Int × Int) (fun ⟨x198, x200⟩ => []) (fun ⟨x198, x200⟩ => fun w202 => Hp w [] M [rowR 61 b162 [vi y148.id, vi y148.source, vi y148.account, vi y148.made, vi x198, vu y148.kind, vi x200, vi y148.of_], ownR [] ReportE 61 v130 x129] w202 ∧ Adv (mm [rowR 61 b162 (vR y148), ownR [] ReportE 61 v130 x129] M) (mm [rowR 61 b162 [vi y148.id, vi y148.source, vi y148.account, vi y148.made, vi x198, vu y148.kind, vi x200, vi y148.of_], ownR [] ReportE 61 v130 x129] M) w166 w202 ∧ InK .i64 x198 ∧ InK .i64 x200 ∧ (x198, x200) = j196) ?_ ?_)
       ·refine cw_regSea [0, 1, 4] [2, 3, 5, 6, 7] [] [5, 7] [[5, 0], [5, 1], [5, 4], [7, 0], [7, 1], [7, 4]] [] fol (by kernel_rfl) rfl (by kernel_rfl) rfl rfl ?_
        refine s_fa rfl Tryd.underlying61 rfl Tryd.sizeOf3 rfl (s_ld rfl ((hC97.adv ((Adv.of_ext e103).trans (hA135.trans (x165.trans x168)))).cells.at 4 rfl) Tryd.isAgg3 rfl (s_fa rfl Tryd.underlying61 rfl Tryd.sizeOf3 rfl (Reg.nilX ⟨rfl, rfl, rfl, ?_⟩)))
        intro w205 e206
        have hI207 := (Hp.start (Mu := []) hI167.mlt).ext e206
        refine SeaWalk.step [2, 5] (by kernel_rfl) (AllL.cons ?_ (AllL.cons ?_ (AllL.nil)))
        ·refine ⟨_, [], rfl, RSub.nil, rfl, nodupB_spec rfl, ?_⟩
         simp only [relOut]
         refine s_fa rfl Tryd.underlying61 rfl Tryd.sizeOf3 rfl (Reg.nil ⟨rfl, .inr hI207.kp, rfl, ?_⟩)
         intro w230 e231
         have hI232 := hI207.ext e231
         refine SeaWalk.step [3, 5] (by kernel_rfl) (AllL.cons ?_ (AllL.cons ?_ (AllL.nil)))
         ·refine ⟨_, [], rfl, RSub.nil, rfl, nodupB_spec rfl, ?_⟩
          simp only [relOut]
          refine s_ld rfl ((hC97.adv ((Adv.of_ext e103).trans (hA135.trans (x165.trans (x168.trans ((Adv.of_ext e206).trans (Adv.of_ext e231))))))).cells.at 6 rfl) Tryd.isAgg3 rfl (Reg.nil ⟨rfl, .inr hI232.kp, rfl, ?_⟩)
          intro w233 e234
          have hI235 := hI232.ext e234
          refine SeaWalk.step [5] (by kernel_rfl) (AllL.cons ?_ (AllL.nil))
          refine ⟨_, [], rfl, RSub.nil, rfl, nodupB_spec rfl, ?_⟩
          simp only [relOut]
          have hI236 := hI167.join hI235
          refine y_st 0 hI236 rfl rfl rfl rfl Tryd.sizeOf3 rfl rfl (one1 rfl one0) ?_
          intro w237 hI238 x239
          refine Reg.nil ⟨rfl, .inl rfl, rfl, ?_⟩
          intro w240 e241
          have hI242 := hI238.ext e241
          refine SeaWalk.step [6] (by kernel_rfl) (AllL.cons ?_ (AllL.nil))
          refine ⟨_, [], rfl, RSub.nil, rfl, nodupB_spec rfl, ?_⟩
          simp only [relOut]
          refine s_fa rfl Tryd.underlying61 rfl Tryd.sizeOf3 rfl (Reg.nil ⟨rfl, .inl rfl, rfl, ?_⟩)
          intro w243 e244
          have hI245 := hI242.ext e244
          refine SeaWalk.step [7] (by kernel_rfl) (AllL.cons ?_ (AllL.nil))
          refine ⟨_, [], rfl, RSub.nil, rfl, nodupB_spec rfl, ?_⟩
          simp only [relOut]
          refine y_st 0 hI245 rfl rfl rfl rfl Tryd.sizeOf3 rfl rfl (one1 rfl one0) ?_
          intro w246 hI247 x248
          refine Reg.nil ⟨rfl, .inl rfl, rfl, ?_⟩
          intro w249 e250
          have hI251 := hI247.ext e250
          refine SeaWalk.done ?_
          obtain rfl := Option.some.inj h197
          refine ⟨rfl, (z75.about, z75.cents), ⟨hI251, ((Adv.of_ext e206).trans ((Adv.of_ext e231).trans ((Adv.of_ext e234).trans (x239.trans ((Adv.of_ext e241).trans ((Adv.of_ext e244).trans (x248.trans (Adv.of_ext e250)))))))), r84, r86, rfl⟩, sb12 rfl rfl rfl rfl rfl rfl rfl rfl rfl rfl rfl rfl⟩
         refine ⟨_, [], rfl, RSub.nil, rfl, nodupB_spec rfl, ?_⟩
         simp only [relOut]
         have hI252 := hI167.join hI232
         refine y_st 0 hI252 rfl rfl rfl rfl Tryd.sizeOf3 rfl rfl (one1 rfl one0) ?_
         intro w253 hI254 x255
         refine Reg.nil ⟨rfl, .inl rfl, rfl, ?_⟩
         intro w256 e257
         have hI258 := hI254.ext e257
         refine SeaWalk.step [3] (by kernel_rfl) (AllL.cons ?_ (AllL.nil))
         refine ⟨_, [], rfl, RSub.nil, rfl, nodupB_spec rfl, ?_⟩
         simp only [relOut]
         refine s_ld rfl ((hC97.adv ((Adv.of_ext e103).trans (hA135.trans (x165.trans (x168.trans ((Adv.of_ext e206).trans ((Adv.of_ext e231).trans (x255.trans (Adv.of_ext e257))))))))).cells.at 6 rfl) Tryd.isAgg3 rfl (Reg.nil ⟨rfl, .inl rfl, rfl, ?_⟩)
         intro w259 e260
         have hI261 := hI258.ext e260
         refine SeaWalk.step [6] (by kernel_rfl) (AllL.cons ?_ (AllL.nil))
         refine ⟨_, [], rfl, RSub.nil, rfl, nodupB_spec rfl, ?_⟩
         simp only [relOut]
         refine s_fa rfl Tryd.underlying61 rfl Tryd.sizeOf3 rfl (Reg.nil ⟨rfl, .inl rfl, rfl, ?_⟩)
         intro w262 e263
         have hI264 := hI261.ext e263
         refine SeaWalk.step [7] (by kernel_rfl) (AllL.cons ?_ (AllL.nil))
         refine ⟨_, [], rfl, RSub.nil, rfl, nodupB_spec rfl, ?_⟩
         simp only [relOut]
         refine y_st 0 hI264 rfl rfl rfl rfl Tryd.sizeOf3 rfl rfl (one1 rfl one0) ?_
         intro w265 hI266 x267
         refine Reg.nil ⟨rfl, .inl rfl, rfl, ?_⟩
         intro w268 e269
         have hI270 := hI266.ext e269
         refine SeaWalk.done ?_
         obtain rfl := Option.some.inj h197
         refine ⟨rfl, (z75.about, z75.cents), ⟨hI270, ((Adv.of_ext e206).trans ((Adv.of_ext e231).trans (x255.trans ((Adv.of_ext e257).trans ((Adv.of_ext e260).trans ((Adv.of_ext e263).trans (x267.trans (Adv.of_ext e269)))))))), r84, r86, rfl⟩, sb12 rfl rfl rfl rfl rfl rfl rfl rfl rfl rfl rfl rfl⟩
        refine ⟨_, [], rfl, RSub.nil, rfl, nodupB_spec rfl, ?_⟩
        simp only [relOut]
        have hI271 := hI167.join hI207
        refine y_st 0 hI271 rfl rfl rfl rfl Tryd.sizeOf3 rfl rfl (one1 rfl one0) ?_
        intro w272 hI273 x274
        refine Reg.nil ⟨rfl, .inl rfl, rfl, ?_⟩
        intro w275 e276
        have hI277 := hI273.ext e276
        refine SeaWalk.step [2] (by kernel_rfl) (AllL.cons ?_ (AllL.nil))
        refine ⟨_, [], rfl, RSub.nil, rfl, nodupB_spec rfl, ?_⟩
        simp only [relOut]
        refine s_fa rfl Tryd.underlying61 rfl Tryd.sizeOf3 rfl (Reg.nil ⟨rfl, .inl rfl, rfl, ?_⟩)
        intro w278 e279
        have hI280 := hI277.ext e279
        refine SeaWalk.step [3] (by kernel_rfl) (AllL.cons ?_ (AllL.nil))
        refine ⟨_, [], rfl, RSub.nil, rfl, nodupB_spec rfl, ?_⟩
        simp only [relOut]
        refine s_ld rfl ((hC97.adv ((Adv.of_ext e103).trans (hA135.trans (x165.trans (x168.trans ((Adv.of_ext e206).trans (x274.trans ((Adv.of_ext e276).trans (Adv.of_ext e279))))))))).cells.at 6 rfl) Tryd.isAgg3 rfl (Reg.nil ⟨rfl, .inl rfl, rfl, ?_⟩)
        intro w281 e282
        have hI283 := hI280.ext e282
        refine SeaWalk.step [6] (by kernel_rfl) (AllL.cons ?_ (AllL.nil))
        refine ⟨_, [], rfl, RSub.nil, rfl, nodupB_spec rfl, ?_⟩
        simp only [relOut]
        refine s_fa rfl Tryd.underlying61 rfl Tryd.sizeOf3 rfl (Reg.nil ⟨rfl, .inl rfl, rfl, ?_⟩)
        intro w284 e285
        have hI286 := hI283.ext e285
        refine SeaWalk.step [7] (by kernel_rfl) (AllL.cons ?_ (AllL.nil))
        refine ⟨_, [], rfl, RSub.nil, rfl, nodupB_spec rfl, ?_⟩
        simp only [relOut]
        refine y_st 0 hI286 rfl rfl rfl rfl Tryd.sizeOf3 rfl rfl (one1 rfl one0) ?_
        intro w287 hI288 x289
        refine Reg.nil ⟨rfl, .inl rfl, rfl, ?_⟩
        intro w290 e291
        have hI292 := hI288.ext e291
        refine SeaWalk.done ?_
        obtain rfl := Option.some.inj h197
        refine ⟨rfl, (z75.about, z75.cents), ⟨hI292, ((Adv.of_ext e206).trans (x274.trans ((Adv.of_ext e276).trans ((Adv.of_ext e279).trans ((Adv.of_ext e282).trans ((Adv.of_ext e285).trans (x289.trans (Adv.of_ext e291)))))))), r84, r86, rfl⟩, sb12 rfl rfl rfl rfl rfl rfl rfl rfl rfl rfl rfl rfl⟩
       rintro ⟨x198, x200⟩ w202 ⟨hI203, hA204, r199, r201, rfl⟩
       obtain rfl := Option.some.inj h187
       refine ⟨rfl, (x198, x200), ⟨hI203, hA204, r199, r201, rfl⟩, sb12 rfl rfl rfl rfl rfl rfl rfl rfl rfl rfl rfl rfl⟩
      replace h187 := cdF hc195 h187
      refine cw_skip ?_
      obtain rfl := Option.some.inj h187
      refine ⟨rfl, (y148.about, y148.cents), ⟨hI167, (Adv.refl _ _), r158, r160, rfl⟩, sb12 rfl rfl rfl rfl rfl rfl rfl rfl rfl rfl rfl rfl⟩
     rintro ⟨x188, x190⟩ w192 ⟨hI193, hA194, r189, r191, rfl⟩
     obtain rfl := Option.some.inj h178
     refine ⟨rfl, (x188, x190), ⟨hI193, hA194, r189, r191, rfl⟩, sb12 rfl rfl rfl rfl rfl rfl rfl rfl rfl rfl rfl rfl⟩
    rintro ⟨x179, x181⟩ w183 ⟨hI184, hA185, r180, r182, rfl⟩
    refine cw_regF (s_mv rfl rfl (s_lda rfl (hI184.row 0 rfl).rd.cells Tryd.isAgg61 rfl Tryd.sizeOf61 rfl (y_bs (E := ReportE) (xs := [(Report.mk y148.id y148.source y148.account y148.made x179 y148.kind x181 y148.of_)]) sl22 hI184 rfl rfl (Cls.cons rfl Cls.nil) (Chs.cons ((ReportE_R (x := (Report.mk y148.id y148.source y148.account y148.made x179 y148.kind x181 y148.of_))).2 ⟨rfl, r154, r155, r156, r157, r180, r159, r182, r161⟩) Chs.nil) rfl rfl ?_)))
    intro v293 w294 hI295 x296
    have hf297 := hI295.freeze 0 rfl
    have hI298 := hI295.erase 0
    obtain ⟨l299, hl299, h142⟩ := bnd h142
    obtain ⟨hbl299, el299⟩ := appo_out hl299
    refine y_app 1 sl22 hI298 rfl rfl rfl hf297 hbl299 rfl ?_
    rw [← el299]
    intro v300 w301 hI302 x303
    refine s_as rfl rfl (Reg.nil ?_)
    obtain rfl := Option.some.inj h142
    refine ⟨rfl, (l299, v300), ⟨(hI302.sel [1] rfl), ((x165.trans (x168.trans (hA185.trans (x296.trans ((hI295.eraseH 0).trans x303))))).trans (Hp.selA (σ := [rowR 61 b162 [vi y148.id, vi y148.source, vi y148.account, vi y148.made, vi x179, vu y148.kind, vi x181, vi y148.of_], ownR [] ReportE 61 v300 l299]) [1])), rfl⟩, sb11 rfl rfl rfl rfl rfl rfl rfl rfl rfl rfl rfl⟩
   rintro ⟨x143, v144⟩ w145 ⟨hI146, hA147, rfl⟩
   refine cw_regF ?_
   obtain ⟨n304, hn304, h138⟩ := bnd h138
   replace hn304 := chk_out hn304
   refine p_add rfl rfl rfl hn304 (s_mv rfl rfl (Reg.nil ?_))
   obtain rfl := Option.some.inj h138
   refine ⟨rfl, (x143, n304, v144), ⟨⟨hI146, (hA135.trans hA147), hn304.2⟩, rfl⟩, sb11 rfl rfl rfl rfl rfl rfl rfl rfl rfl rfl rfl⟩
  replace h138 := cdF hc140 h138
  refine cw_exit (exB_same ?_)
  obtain rfl := Option.some.inj h138
  obtain rfl := hR139 _ rfl
  refine ⟨rfl, (x129, v130), ⟨hI134, hA135, rfl⟩, sb6 rfl rfl rfl rfl rfl rfl⟩
 rintro ⟨x124, v125⟩ w126 ⟨hI127, hA128, rfl⟩
 refine cw_seq (cw_regF ?_)
 iterate 4 refine s_mv rfl rfl ?_
 obtain ⟨⟨z305, z306⟩, hz307, h⟩ := bnd h
 refine s_call rfl Tryd.call20 rfl ((C_account_State hI127.mlt (hG.adv hI127.adv) (f_l_0.adv hI127.adv) f_id_0 f_day_0 f_known_0 hz307).mono ?_)
 rintro _ w308 ⟨v313, v318, v323, v328, v333, v338, rfl, r310, r311, r312, hf314, r315, r316, r317, hf319, r320, r321, r322, hf324, r325, r326, r327, hf329, r330, r331, r332, hf334, r335, r336, r337, hf339, r340, r341, r342, r343, e309⟩
 refine ⟨_, rfl, ?_⟩
 have hI344 := hI127.ext e309
 refine s_mv rfl rfl (s_xt rfl rfl rfl (s_xt rfl rfl rfl (y_al hI344 Tryd.zeroValue42 rfl rfl ?_)))
 intro b345 w346 hI347 x348
 refine y_st 0 hI347 rfl rfl rfl rfl Tryd.sizeOf42 rfl rfl (one1 rfl (one1 rfl (one1 rfl (one1 (RdS.oneC hf314) (one1 rfl (one1 rfl (one1 rfl (one1 (RdS.oneC hf319) (one1 rfl (one1 rfl (one1 rfl (one1 (RdS.oneC hf324) (one1 rfl (one1 rfl (one1 rfl (one1 (RdS.oneC hf329) (one1 rfl (one1 rfl (one1 rfl (one1 (RdS.oneC hf334) (one1 rfl (one1 rfl (one1 rfl (one1 (RdS.oneC hf339) (on3 rfl rfl rfl))))))))))))))))))))))))) ?_
 intro w349 hI350 x351
 have hC353 := hI350.freezeRow 0 rfl
 have hI352 := hI350.erase 0
 refine s_as rfl rfl (Reg.nil (cw_seq (cw_regF ?_)))
 iterate 4 refine s_mv rfl rfl ?_
 have hf354 := hI352.freeze 0 rfl
 have hI355 := hI352.erase 0
 obtain ⟨⟨z356, z357⟩, hz358, h⟩ := bnd h
 refine s_call rfl Tryd.call20 rfl ((C_account_State hI355.mlt (hG.adv hI355.adv) hf354 f_id_0 f_day_0 f_known_0 hz358).mono ?_)
 rintro _ w359 ⟨v364, v369, v374, v379, v384, v389, rfl, r361, r362, r363, hf365, r366, r367, r368, hf370, r371, r372, r373, hf375, r376, r377, r378, hf380, r381, r382, r383, hf385, r386, r387, r388, hf390, r391, r392, r393, r394, e360⟩
 refine ⟨_, rfl, ?_⟩
 have hI395 := hI355.ext e360
 refine s_mv rfl rfl (s_xt rfl rfl rfl (s_xt rfl rfl rfl (y_al hI395 Tryd.zeroValue42 rfl rfl ?_)))
 intro b396 w397 hI398 x399
 refine y_st 0 hI398 rfl rfl rfl rfl Tryd.sizeOf42 rfl rfl (one1 rfl (one1 rfl (one1 rfl (one1 (RdS.oneC hf365) (one1 rfl (one1 rfl (one1 rfl (one1 (RdS.oneC hf370) (one1 rfl (one1 rfl (one1 rfl (one1 (RdS.oneC hf375) (one1 rfl (one1 rfl (one1 rfl (one1 (RdS.oneC hf380) (one1 rfl (one1 rfl (one1 rfl (one1 (RdS.oneC hf385) (one1 rfl (one1 rfl (one1 rfl (one1 (RdS.oneC hf390) (on3 rfl rfl rfl))))))))))))))))))))))))) ?_
 intro w400 hI401 x402
 have hC404 := hI401.freezeRow 0 rfl
 have hI403 := hI401.erase 0
 refine s_as rfl rfl (Reg.nil (cw_seq (cw_regF (s_mv rfl rfl (s_mv rfl rfl ?_)))))
 obtain ⟨⟨z405, z406⟩, hz407, h⟩ := bnd h
 refine s_call rfl Tryd.call13 rfl ((C_account_Standing hI403.mlt (hG.adv hI403.adv) (f_l_0.adv hI403.adv) f_known_0 hz407).mono ?_)
 rintro _ w408 ⟨v410, rfl, hf411, r412, e409⟩
 refine ⟨_, rfl, ?_⟩
 have hI413 := hI403.addOwn e409 hf411
 refine s_mv rfl rfl (s_xt rfl rfl rfl (s_xt rfl rfl rfl (s_as rfl rfl (s_as rfl rfl (Reg.nil (cw_seq (cw_regF (s_mv rfl rfl (s_mv rfl rfl ?_)))))))))
 obtain ⟨⟨z414, z415⟩, hz416, h⟩ := bnd h
 refine s_call rfl Tryd.call13 rfl ((C_account_Standing hI413.mlt (hG.adv hI413.adv) (hf354.adv ((Adv.of_ext e360).trans (x399.trans (x402.trans ((hI401.eraseH 0).trans (hI403.addOwnA e409 hf411)))))) f_known_0 hz416).mono ?_)
 rintro _ w417 ⟨v419, rfl, hf420, r421, e418⟩
 refine ⟨_, rfl, ?_⟩
 have hI422 := hI413.addOwn e418 hf420
 refine s_mv rfl rfl (s_xt rfl rfl rfl (s_xt rfl rfl rfl (s_as rfl rfl (s_as rfl rfl (Reg.nil ?_)))))
 obtain ⟨j423, h424, h⟩ := bnd h
 refine cw_keep [11, 24, 25, 26, 27, 28, 29, 30, 31] rfl (cw_seqD 9 (ι := Bool) (fun x425 => [(10, Value.bool x425)]) (fun x425 => fun w426 => Hp w [] M [ownR [] ReportE 61 v419 z414, ownR [] ReportE 61 v410 z405] w426 ∧ Adv (mm [ownR [] ReportE 61 v419 z414, ownR [] ReportE 61 v410 z405] M) (mm [ownR [] ReportE 61 v419 z414, ownR [] ReportE 61 v410 z405] M) w417 w426 ∧ x425 = j423) ?_ ?_)
 ·refine cw_regF (s_mv rfl rfl (s_mv rfl rfl (Reg.gsplit (t := 197) rfl (fun hg429 => ?_) (fun hg429 => ?_))))
  ·replace h424 := cdT hg429 h424
   refine Reg.take rfl rfl (s_mv rfl rfl (Reg.take rfl rfl (s_eql rfl rfl rfl (s_pkT rfl rfl rfl (s_mv rfl rfl (Reg.gsplit (t := 201) rfl (fun hg430 => ?_) (fun hg430 => ?_)))))))
   ·replace h424 := cdT hg430 h424
    refine Reg.take rfl rfl (s_mv rfl rfl (Reg.take rfl rfl (s_eql rfl rfl rfl (s_pkT rfl rfl rfl (s_mv rfl rfl (Reg.gsplit (t := 205) rfl (fun hg431 => ?_) (fun hg431 => ?_)))))))
    ·replace h424 := cdT hg431 h424
     refine Reg.take rfl rfl (s_mv rfl rfl (Reg.take rfl rfl (s_eql rfl rfl rfl (s_pkT rfl rfl rfl (s_mv rfl rfl (Reg.gsplit (t := 209) rfl (fun hg432 => ?_) (fun hg432 => ?_)))))))
     ·replace h424 := cdT hg432 h424
      refine Reg.take rfl rfl (s_mv rfl rfl (Reg.take rfl rfl (s_eql rfl rfl rfl (s_pkT rfl rfl rfl (s_mv rfl rfl (Reg.gsplit (t := 213) rfl (fun hg433 => ?_) (fun hg433 => ?_)))))))
      ·replace h424 := cdT hg433 h424
       refine Reg.take rfl rfl (s_lda rfl (hC353.adv ((hI352.eraseH 0).trans ((Adv.of_ext e360).trans (x399.trans (x402.trans ((hI401.eraseH 0).trans ((hI403.addOwnA e409 hf411).trans (hI413.addOwnA e418 hf420)))))))).cells Tryd.isAgg42 rfl Tryd.sizeOf42 rfl (Reg.take rfl rfl (s_lda rfl (hC404.adv ((hI403.addOwnA e409 hf411).trans (hI413.addOwnA e418 hf420))).cells Tryd.isAgg42 rfl Tryd.sizeOf42 rfl (Reg.take rfl rfl ?_))))
       obtain ⟨z434, hz435, h424⟩ := bnd h424
       refine s_call rfl Tryd.call24 rfl ((C_ref03_SameState (a := (State.mk (Told.mk z305.opened.known z305.opened.cents z305.opened.since z305.opened.by_) (Told.mk z305.limit.known z305.limit.cents z305.limit.since z305.limit.by_) (Told.mk z305.owed.known z305.owed.cents z305.owed.since z305.owed.by_) (Told.mk z305.late.known z305.late.cents z305.late.since z305.late.by_) (Told.mk z305.default.known z305.default.cents z305.default.since z305.default.by_) (Told.mk z305.closed.known z305.closed.cents z305.closed.since z305.closed.by_) (Span.mk z305.paid.lo z305.paid.hi) z305.is_)) (b := (State.mk (Told.mk z356.opened.known z356.opened.cents z356.opened.since z356.opened.by_) (Told.mk z356.limit.known z356.limit.cents z356.limit.since z356.limit.by_) (Told.mk z356.owed.known z356.owed.cents z356.owed.since z356.owed.by_) (Told.mk z356.late.known z356.late.cents z356.late.since z356.late.by_) (Told.mk z356.default.known z356.default.cents z356.default.since z356.default.by_) (Told.mk z356.closed.known z356.closed.cents z356.closed.since z356.closed.by_) (Span.mk z356.paid.lo z356.paid.hi) z356.is_)) hI422.mlt r310 r311 r312 (hf314.adv (x348.trans (x351.trans ((hI350.eraseH 0).trans ((hI352.eraseH 0).trans ((Adv.of_ext e360).trans (x399.trans (x402.trans ((hI401.eraseH 0).trans ((hI403.addOwnA e409 hf411).trans (hI413.addOwnA e418 hf420))))))))))) r315 r316 r317 (hf319.adv (x348.trans (x351.trans ((hI350.eraseH 0).trans ((hI352.eraseH 0).trans ((Adv.of_ext e360).trans (x399.trans (x402.trans ((hI401.eraseH 0).trans ((hI403.addOwnA e409 hf411).trans (hI413.addOwnA e418 hf420))))))))))) r320 r321 r322 (hf324.adv (x348.trans (x351.trans ((hI350.eraseH 0).trans ((hI352.eraseH 0).trans ((Adv.of_ext e360).trans (x399.trans (x402.trans ((hI401.eraseH 0).trans ((hI403.addOwnA e409 hf411).trans (hI413.addOwnA e418 hf420))))))))))) r325 r326 r327 (hf329.adv (x348.trans (x351.trans ((hI350.eraseH 0).trans ((hI352.eraseH 0).trans ((Adv.of_ext e360).trans (x399.trans (x402.trans ((hI401.eraseH 0).trans ((hI403.addOwnA e409 hf411).trans (hI413.addOwnA e418 hf420))))))))))) r330 r331 r332 (hf334.adv (x348.trans (x351.trans ((hI350.eraseH 0).trans ((hI352.eraseH 0).trans ((Adv.of_ext e360).trans (x399.trans (x402.trans ((hI401.eraseH 0).trans ((hI403.addOwnA e409 hf411).trans (hI413.addOwnA e418 hf420))))))))))) r335 r336 r337 (hf339.adv (x348.trans (x351.trans ((hI350.eraseH 0).trans ((hI352.eraseH 0).trans ((Adv.of_ext e360).trans (x399.trans (x402.trans ((hI401.eraseH 0).trans ((hI403.addOwnA e409 hf411).trans (hI413.addOwnA e418 hf420))))))))))) r340 r341 r342 r361 r362 r363 (hf365.adv (x399.trans (x402.trans ((hI401.eraseH 0).trans ((hI403.addOwnA e409 hf411).trans (hI413.addOwnA e418 hf420)))))) r366 r367 r368 (hf370.adv (x399.trans (x402.trans ((hI401.eraseH 0).trans ((hI403.addOwnA e409 hf411).trans (hI413.addOwnA e418 hf420)))))) r371 r372 r373 (hf375.adv (x399.trans (x402.trans ((hI401.eraseH 0).trans ((hI403.addOwnA e409 hf411).trans (hI413.addOwnA e418 hf420)))))) r376 r377 r378 (hf380.adv (x399.trans (x402.trans ((hI401.eraseH 0).trans ((hI403.addOwnA e409 hf411).trans (hI413.addOwnA e418 hf420)))))) r381 r382 r383 (hf385.adv (x399.trans (x402.trans ((hI401.eraseH 0).trans ((hI403.addOwnA e409 hf411).trans (hI413.addOwnA e418 hf420)))))) r386 r387 r388 (hf390.adv (x399.trans (x402.trans ((hI401.eraseH 0).trans ((hI403.addOwnA e409 hf411).trans (hI413.addOwnA e418 hf420)))))) r391 r392 r393 hz435).mono ?_)
       rintro _ w436 ⟨rfl, e437⟩
       refine ⟨_, rfl, ?_⟩
       have hI438 := hI422.ext e437
       refine s_pkT rfl rfl rfl (s_mv rfl rfl (Reg.gsplit (t := 218) rfl (fun hg439 => ?_) (fun hg439 => ?_)))
       ·replace h424 := cdT hg439 h424
        refine Reg.take rfl rfl (s_mv rfl rfl (Reg.take rfl rfl (s_mv rfl rfl (Reg.take rfl rfl ?_))))
        obtain ⟨z440, hz441, h424⟩ := bnd h424
        refine s_call rfl Tryd.call19 rfl ((C_ref03_SameReports (hI438.sel [] rfl).mlt (hI438.lendRd [] 1 rfl rfl) (hI438.lendRd [] 0 rfl rfl) hz441).mono ?_)
        rintro _ w442 ⟨rfl, e443⟩
        refine ⟨_, rfl, ?_⟩
        have hI444 := hI438.ext e443
        refine s_pkT rfl rfl rfl (s_as rfl rfl (Reg.nil ?_))
        obtain rfl := Option.some.inj h424
        refine ⟨rfl, z440, ⟨hI444, ((Adv.of_ext e437).trans (Adv.of_ext e443)), rfl⟩, sb1 rfl⟩
       replace h424 := cdF hg439 h424
       iterate 3 refine Reg.pass rfl rfl rfl rfl ?_
       refine s_pkF rfl rfl rfl (s_as rfl rfl (Reg.nil ?_))
       obtain rfl := Option.some.inj h424
       refine ⟨rfl, false, ⟨hI438, (Adv.of_ext e437), rfl⟩, sb1 rfl⟩
      replace h424 := cdF hg433 h424
      iterate 3 refine Reg.pass rfl rfl rfl rfl ?_
      refine s_pkF rfl rfl rfl (s_mv rfl rfl ?_)
      iterate 3 refine Reg.pass rfl rfl rfl rfl ?_
      refine s_pkF rfl rfl rfl (s_as rfl rfl (Reg.nil ?_))
      obtain rfl := Option.some.inj h424
      refine ⟨rfl, false, ⟨hI422, (Adv.refl _ _), rfl⟩, sb1 rfl⟩
     replace h424 := cdF hg432 h424
     refine Reg.pass rfl rfl rfl rfl (Reg.pass rfl rfl rfl rfl (s_pkF rfl rfl rfl (s_mv rfl rfl ?_)))
     iterate 3 refine Reg.pass rfl rfl rfl rfl ?_
     refine s_pkF rfl rfl rfl (s_mv rfl rfl ?_)
     iterate 3 refine Reg.pass rfl rfl rfl rfl ?_
     refine s_pkF rfl rfl rfl (s_as rfl rfl (Reg.nil ?_))
     obtain rfl := Option.some.inj h424
     refine ⟨rfl, false, ⟨hI422, (Adv.refl _ _), rfl⟩, sb1 rfl⟩
    replace h424 := cdF hg431 h424
    refine Reg.pass rfl rfl rfl rfl (Reg.pass rfl rfl rfl rfl (s_pkF rfl rfl rfl (s_mv rfl rfl (Reg.pass rfl rfl rfl rfl (Reg.pass rfl rfl rfl rfl (s_pkF rfl rfl rfl (s_mv rfl rfl ?_)))))))
    iterate 3 refine Reg.pass rfl rfl rfl rfl ?_
    refine s_pkF rfl rfl rfl (s_mv rfl rfl ?_)
    iterate 3 refine Reg.pass rfl rfl rfl rfl ?_
    refine s_pkF rfl rfl rfl (s_as rfl rfl (Reg.nil ?_))
    obtain rfl := Option.some.inj h424
    refine ⟨rfl, false, ⟨hI422, (Adv.refl _ _), rfl⟩, sb1 rfl⟩
   replace h424 := cdF hg430 h424
   refine Reg.pass rfl rfl rfl rfl (Reg.pass rfl rfl rfl rfl (s_pkF rfl rfl rfl (s_mv rfl rfl (Reg.pass rfl rfl rfl rfl (Reg.pass rfl rfl rfl rfl (s_pkF rfl rfl rfl (s_mv rfl rfl (Reg.pass rfl rfl rfl rfl (Reg.pass rfl rfl rfl rfl (s_pkF rfl rfl rfl (s_mv rfl rfl ?_)))))))))))
   iterate 3 refine Reg.pass rfl rfl rfl rfl ?_
   refine s_pkF rfl rfl rfl (s_mv rfl rfl ?_)
   iterate 3 refine Reg.pass rfl rfl rfl rfl ?_
   refine s_pkF rfl rfl rfl (s_as rfl rfl (Reg.nil ?_))
   obtain rfl := Option.some.inj h424
   refine ⟨rfl, false, ⟨hI422, (Adv.refl _ _), rfl⟩, sb1 rfl⟩
  replace h424 := cdF hg429 h424
  refine Reg.pass rfl rfl rfl rfl (Reg.pass rfl rfl rfl rfl (s_pkF rfl rfl rfl (s_mv rfl rfl (Reg.pass rfl rfl rfl rfl (Reg.pass rfl rfl rfl rfl (s_pkF rfl rfl rfl (s_mv rfl rfl (Reg.pass rfl rfl rfl rfl (Reg.pass rfl rfl rfl rfl (s_pkF rfl rfl rfl (s_mv rfl rfl ?_)))))))))))
  refine Reg.pass rfl rfl rfl rfl (Reg.pass rfl rfl rfl rfl (s_pkF rfl rfl rfl (s_mv rfl rfl ?_)))
  iterate 3 refine Reg.pass rfl rfl rfl rfl ?_
  refine s_pkF rfl rfl rfl (s_mv rfl rfl ?_)
  iterate 3 refine Reg.pass rfl rfl rfl rfl ?_
  refine s_pkF rfl rfl rfl (s_as rfl rfl (Reg.nil ?_))
  obtain rfl := Option.some.inj h424
  refine ⟨rfl, false, ⟨hI422, (Adv.refl _ _), rfl⟩, sb1 rfl⟩
 rintro x425 w426 ⟨hI427, hA428, rfl⟩
 refine cw_ret ?_
 obtain rfl := Option.some.inj h
 refine fin1 Tryd.results10 rfl ?_
 exact ⟨rfl, hI427.kp⟩
end Go.Proofs.YtepjkmoipjeghaaDoor
namespace Go.Proofs.YtepjkmoipjeghaaDoor
open Go Go.Sx
namespace S
/-- No correction of a report. -/
def nq (r x : Report) : Bool := !(decide (x.kind = 8) && decide (x.of_ = r.id))
/-- As it is now. -/
def mf (r c x : Report) : Report := if x.id = r.id then ⟨x.id, x.source, x.account, x.made, c.about, x.kind, c.cents, x.of_⟩ else x
theorem mf_same (r c x : Report) : (mf r c x).id = x.id ∧ (mf r c x).source = x.source ∧ (mf r c x).account = x.account ∧ (mf r c x).made = x.made ∧ (mf r c x).kind = x.kind ∧ (mf r c x).of_ = x.of_ := by
  unfold mf; split <;> exact ⟨rfl, rfl, rfl, rfl, rfl, rfl⟩
theorem mf_other {r c x : Report} (h : x.id ≠ r.id) : mf r c x = x := by unfold mf; rw [if_neg h]
theorem nq_not {r x : Report} : nq r x = false ↔ x.kind = 8 ∧ x.of_ = r.id := by simp [nq]
theorem nq_of {r x : Report} (h : x.kind ≠ 8) : nq r x = true := by simp [nq, h]
theorem nq_ne {r x : Report} (h : x.of_ ≠ r.id) : nq r x = true := by simp [nq, h]
section
variable {K : List Report} (hK : Ok K) {r c : Report} (hr : r ∈ K) (h7 : r.kind ≤ 7) (hw : WdR K r.id none) (hb : best K r = some c)
include hK hr h7 hw hb
theorem fix_r : fix K r = mf r c r := by unfold fix mf; rw [hb, if_pos rfl]
theorem mf_r {x : Report} (hx : x ∈ K) (e : x.id = r.id) : mf r c x = fix K r := by
  obtain rfl := hK.one hx hr e
  exact (fix_r hK hr h7 hw hb).symm
theorem ok_now : Ok ((K.filter (nq r)).map (mf r c)) := by
  refine ⟨fun x hx => ?_, ?_, by rw [List.length_map]; exact Nat.le_trans (List.length_filter_le _ _) hK.len⟩
  · obtain ⟨y, hy, rfl⟩ := List.mem_map.1 hx
    have hyK := (List.mem_filter.1 hy).1
    by_cases e : y.id = r.id
    · rw [mf_r hK hr h7 hw hb hyK e]
      classical
      refine (T_v hK ?_).1
      unfold T
      exact List.mem_map.2 ⟨r, List.mem_filter.2 ⟨hr, decide_eq_true ⟨h7, hw⟩⟩, rfl⟩
    · rw [mf_other e]; exact hK.v y hyK
  · rw [List.map_map]
    have : (fun x : Report => x.id) ∘ mf r c = fun x => x.id := funext fun x => (mf_same r c x).1
    rw [this]
    exact (List.filter_sublist.map _).nodup hK.nd
theorem T_now : (T K).Perm (T ((K.filter (nq r)).map (mf r c))) := by
  classical
  have hK' := ok_now hK hr h7 hw hb
  obtain ⟨K', hKe⟩ : ∃ K', (K.filter (nq r)).map (mf r c) = K' := ⟨_, rfl⟩
  rw [hKe] at hK' ⊢
  have hm : ∀ x, x ∈ K' ↔ ∃ y ∈ K, nq r y = true ∧ mf r c y = x := fun x => by
    rw [← hKe, List.mem_map]
    constructor
    · rintro ⟨y, hy, rfl⟩; exact ⟨y, (List.mem_filter.1 hy).1, (List.mem_filter.1 hy).2, rfl⟩
    · rintro ⟨y, h1, h2, rfl⟩; exact ⟨y, List.mem_filter.2 ⟨h1, h2⟩, rfl⟩
  have put : ∀ y ∈ K, nq r y = true → mf r c y ∈ K' := fun y h1 h2 => (hm _).2 ⟨y, h1, h2, rfl⟩
  have m8 : ∀ y ∈ K, y.kind = 8 → mf r c y = y := fun y hy h8 => mf_other fun e => by
    have := hK.one hy hr e; subst this; omega
  have aim : ∀ y ∈ K, nq r y = true → ∀ t ∈ K, nq r t = true → (Aim K' (mf r c y) (mf r c t) ↔ Aim K y t) := fun y hy qy t ht qt => by
    unfold Aim
    obtain ⟨a1, a2, a3, a4, a5, a6⟩ := mf_same r c y
    obtain ⟨b1, b2, b3, b4, b5, b6⟩ := mf_same r c t
    rw [a2, a3, a6, b1, b2, b3]
    exact and_congr_left fun _ => ⟨fun _ => ht, fun _ => put t ht qt⟩
  have wd : ∀ t ∈ K, nq r t = true → (WdR K t.id none ↔ WdR K' t.id none) := fun t ht qt => by
    constructor
    · intro h x hx hd
      obtain ⟨y, hy, qy, rfl⟩ := (hm x).1 hx
      obtain ⟨a1, a2, a3, a4, a5, a6⟩ := mf_same r c y
      obtain ⟨_, h1, h2, o', ha, ho⟩ := hd
      obtain ⟨o, hoK, qo, rfl⟩ := (hm o').1 ha.1
      have e : o = t := hK.one hoK ht (by rw [← (mf_same r c o).1, ha.2.1, h2])
      subst e
      exact h y hy ⟨hy, by rw [← a5]; exact h1, by rw [← a6]; exact h2, o, (aim y hy qy o hoK qo).1 ha, by rw [← (mf_same r c o).2.2.2.2.1]; exact ho⟩
    · intro h y hy hd
      obtain ⟨_, h1, h2, o, ha, ho⟩ := hd
      have qy : nq r y = true := nq_of (by omega)
      have e : o = t := hK.one ha.1 ht (by rw [ha.2.1, h2])
      subst e
      obtain ⟨a1, a2, a3, a4, a5, a6⟩ := mf_same r c y
      exact h _ (put y hy qy) ⟨put y hy qy, by rw [a5]; exact h1, by rw [a6]; exact h2, mf r c o, (aim y hy qy o ha.1 qt).2 ha, by rw [(mf_same r c o).2.2.2.2.1]; exact ho⟩
  have co : ∀ o ∈ K, o.kind ≤ 7 → ∀ y ∈ K, nq r y = true → (Co K' (mf r c o) (mf r c y) ↔ Co K o y) := fun o ho o7 y hy qy => by
    have qo : nq r o = true := nq_of (by omega)
    unfold Co
    obtain ⟨a1, a2, a3, a4, a5, a6⟩ := mf_same r c y
    rw [a1, a5, (mf_same r c o).2.2.2.2.1, aim y hy qy o ho qo, ← wd y hy qy]
    refine and_congr_right fun h8 => ?_
    rw [m8 y hy h8]
  have bo : ∀ o ∈ K, o.kind ≤ 7 → fix K' (mf r c o) = fix K o := fun o ho o7 => by
    by_cases e : o.id = r.id
    · have hbn : best K' (mf r c o) = none := best_is hK' fun x hx hc => by
        obtain ⟨y, hy, qy, rfl⟩ := (hm x).1 hx
        have hc' := (co o ho o7 y hy qy).1 hc
        have : nq r y = false := nq_not.2 ⟨hc'.1, by rw [← e]; exact hc'.2.1.2.1.symm⟩
        rw [this] at qy; cases qy
      unfold fix; rw [hbn]
      have := mf_r hK hr h7 hw hb ho e
      obtain rfl := hK.one ho hr e
      dsimp only
      rw [this]; rfl
    · have hl := best_lt hK o
      have hbn : best K' (mf r c o) = best K o := by
        refine best_is hK' ?_
        cases hbb : best K o with
        | none =>
          rw [hbb] at hl
          intro x hx hc
          obtain ⟨y, hy, qy, rfl⟩ := (hm x).1 hx
          exact hl y hy ((co o ho o7 y hy qy).1 hc)
        | some d =>
          rw [hbb] at hl
          have qd : nq r d = true := nq_ne (by rw [← hl.2.1.2.1.2.1]; exact e)
          have md := m8 d hl.1 hl.2.1.1
          refine ⟨by rw [← md]; exact put d hl.1 qd, by rw [← md]; exact (co o ho o7 d hl.1 qd).2 hl.2.1, fun s hs hp => ?_⟩
          obtain ⟨y, hy, qy, rfl⟩ := (hm s).1 hs
          have hc' := (co o ho o7 y hy qy).1 hp
          rw [m8 y hy hc'.1]
          exact hl.2.2 y hy hc'
      rw [mf_other e] at hbn ⊢
      unfold fix; rw [hbn]
  have el : ∀ {K : List Report} {o : Report}, o ∈ K → o.kind ≤ 7 → WdR K o.id none → fix K o ∈ T K := fun {K o} ho h7 hw => by
    unfold T
    exact List.mem_map.2 ⟨o, List.mem_filter.2 ⟨ho, decide_eq_true ⟨h7, hw⟩⟩, rfl⟩
  refine (List.perm_ext_iff_of_nodup (nd_of (T_nd hK)) (nd_of (T_nd hK'))).2 fun z => ?_
  constructor
  · intro hz
    obtain ⟨o, ho, o7, how, rfl⟩ := T_el hK hz
    have qo : nq r o = true := nq_of (by omega)
    rw [← bo o ho o7]
    exact el (put o ho qo) (by rw [(mf_same r c o).2.2.2.2.1]; exact o7) (by rw [(mf_same r c o).1]; exact (wd o ho qo).1 how)
  · intro hz
    obtain ⟨x, hx, x7, hxw, rfl⟩ := T_el hK' hz
    obtain ⟨o, ho, qo, rfl⟩ := (hm x).1 hx
    rw [(mf_same r c o).2.2.2.2.1] at x7
    rw [(mf_same r c o).1] at hxw
    rw [bo o ho x7]
    exact el ho x7 ((wd o ho qo).2 hxw)
end
end S
end Go.Proofs.YtepjkmoipjeghaaDoor
namespace Go.Proofs.YtepjkmoipjeghaaDoor
open Go Go.Sx
namespace S
theorem p_AccountFixed {l : List Report} (hin : ∀ r ∈ l, InR r) {id day known : Int} (_ : InK .i64 id) (_ : InK .i64 day) (_ : InK .i64 known) {which : Int} (hw : InK .u8 which) : P.law03_AccountFixed l id day known which = some true := by
  rw [InK.u8] at hw
  apply Ret.yes
  unfold P.law03_AccountFixed
  refine Ret.bind (Ret.val alive_is (Ret.bind (Ret.bind (r_ready hin (by simp) (Ret.condT rfl (Ret.ok (Ret.condT rfl (Ret.ok rfl)))) fun c hid hd => Ret.condF rfl (Ret.cond (fun _ => Ret.ok (Ret.condT rfl (Ret.ok rfl))) fun h0 => Ret.ok (Ret.condF rfl ?_))))))
  obtain ⟨hl, hV, hC⟩ := chk0 c
  have h0 := of_decide_eq_false h0
  have hpos : (0 : Int) < l.length := by omega
  refine Ret.bind (Ret.chk (by omega) (Ret.bind (Ret.remO (by omega) hpos (Ret.bind (Ret.ixoI (Int.emod_nonneg _ (by omega)) (Int.emod_lt_of_pos _ hpos) fun r hr => ?_)))))
  have hrl := List.mem_of_getElem? hr
  have hk := hd known (by simp)
  refine Ret.bind (r_Fate1 hin c hk fun K hK => ?_)
  by_cases hrm : r.made ≤ known
  · have hrK : r ∈ K := (hK.mem r).2 ⟨hrl, hrm⟩
    have hft := ft_is hK.ok hrK
    generalize ftOf K r.id = z at hft ⊢
    dsimp only
    cases hft with
    | works9 o h9 h => exact Ret.bind (Ret.condF rfl (Ret.ok (Ret.condT rfl (Ret.bind (Ret.condT rfl (Ret.condT rfl (Ret.ok (Ret.ok rfl))))))))
    | stray9 h9 h => exact Ret.bind (Ret.condF rfl (Ret.ok (Ret.condT rfl (Ret.bind (Ret.condT rfl (Ret.condT rfl (Ret.ok (Ret.ok rfl))))))))
    | gone w h => exact Ret.bind (Ret.condF rfl (Ret.ok (Ret.condT rfl (Ret.bind (Ret.condT rfl (Ret.condT rfl (Ret.ok (Ret.ok rfl))))))))
    | works8 o h8 hw h => exact Ret.bind (Ret.condF rfl (Ret.ok (Ret.condT rfl (Ret.bind (Ret.condT rfl (Ret.condT rfl (Ret.ok (Ret.ok rfl))))))))
    | stray8 h8 hw h => exact Ret.bind (Ret.condF rfl (Ret.ok (Ret.condT rfl (Ret.bind (Ret.condT rfl (Ret.condT rfl (Ret.ok (Ret.ok rfl))))))))
    | stands h7 hw h => exact Ret.bind (Ret.condF rfl (Ret.ok (Ret.condT rfl (Ret.bind (Ret.condT rfl (Ret.condT rfl (Ret.ok (Ret.ok rfl))))))))
    | fixed x h7 hwn hb =>
      have hx := best_lt hK.ok r
      rw [hb] at hx
      have hvr := hK.ok.v r hrK
      have h7' : r.kind ≤ 7 := by have := hvr.1; omega
      have hxl := (hK.mem x).1 hx.1
      refine Ret.bind (Ret.condF rfl (Ret.ok (Ret.condF rfl ?_)))
      refine Ret.bind (r_find (by omega) (fun y hy e => ?_) fun hno => absurd rfl (hno x hxl.1))
      obtain rfl := hC y hy x hxl.1 e
      obtain ⟨hyK, ⟨y8, ya, yr, yw⟩, ylast⟩ := hx
      refine Ret.bind (r_Fate1 hin c hk fun K2 hK2 => ?_)
      rw [ftOf_pm hK2.ok hK.ok (hK2.perm hK)]
      dsimp only
      have hfy := ft_is hK.ok hyK
      have hy4 : ftOf K y.id = (4, -1, 0) := by
        generalize ftOf K y.id = z at hfy ⊢
        cases hfy with
        | works9 o h9 h => rfl
        | stray9 h9 h => omega
        | gone w h => have := Least.uniq h yw; cases this
        | works8 o h8 hw h => rfl
        | stray8 h8 hw h => exact absurd ⟨r, hrK, ya.2.1, h7', hwn, hb⟩ h
        | stands h7 hw h => exact absurd y8 h7.1
        | fixed c h7 hw h => exact absurd y8 h7.1
      rw [hy4]
      dsimp only
      refine Ret.bind (Ret.condF rfl (Ret.condF (by simp [y8]) (Ret.condF (by simp [ya.2.1]) (Ret.condF (by simp [ya.2.2.1]) (Ret.condF (by simp [ya.2.2.2]) (Ret.condF rfl (Ret.condF rfl (Ret.ok (Ret.condF rfl ?_)))))))))
      refine Ret.bind (Ret.loop (fun t : List Report × Int => ∃ n : Nat, t.2 = n ∧ n ≤ l.length ∧ t.1 = ((l.take n).filter (nq r)).map (mf r y)) (fun t => l.length - t.2.toNat) ⟨0, rfl, Nat.zero_le _, rfl⟩ ?_)
      rintro ⟨_, _⟩ ⟨n, rfl, hn, rfl⟩
      dsimp only
      refine Ret.cond (fun h => ?_) fun h => ?_
      · have hlt : n < l.length := by have := of_decide_eq_true h; omega
        have hfl : (((l.take n).filter (nq r)).map (mf r y)).length ≤ l.length := by
          rw [List.length_map]
          refine Nat.le_trans (List.length_filter_le _ _) ?_
          rw [List.length_take]; omega
        have next : ∀ (p' : List Report), p' = ((l.take (n + 1)).filter (nq r)).map (mf r y) → ∀ Q : List Report → Prop, Ret (Option.bind (chk .i64 ((n : Int) + 1)) fun n193 => some (Sum.inl (p', n193) : (List Report × Int) ⊕ List Report)) (Nxt (fun s' : List Report × Int => (∃ n : Nat, s'.2 = n ∧ n ≤ l.length ∧ s'.1 = ((l.take n).filter (nq r)).map (mf r y)) ∧ l.length - s'.2.toNat < l.length - (n : Int).toNat) Q) := fun p' hp' Q => Ret.bind (Ret.chk (by omega) (Ret.next ⟨⟨n + 1, by dsimp only; omega, by omega, hp'⟩, by dsimp only; omega⟩))
        have put : nq r l[n] = true → ((l.take n).filter (nq r)).map (mf r y) ++ [mf r y l[n]] = ((l.take (n + 1)).filter (nq r)).map (mf r y) := fun h => by
          rw [take_snoc hlt, List.filter_append, List.map_append]; simp [h]
        have stay : nq r l[n] = false → ((l.take n).filter (nq r)).map (mf r y) = ((l.take (n + 1)).filter (nq r)).map (mf r y) := fun h => by
          rw [take_snoc hlt, List.filter_append]; simp [h]
        have app : nq r l[n] = true → ∀ (a b : Int), mf r y l[n] = ⟨l[n].id, l[n].source, l[n].account, l[n].made, a, l[n].kind, b, l[n].of_⟩ → ∀ Q, Ret (Option.bind (appo 64 (((l.take n).filter (nq r)).map (mf r y)) ([(Report.mk l[n].id l[n].source l[n].account l[n].made a l[n].kind b l[n].of_)] : List Report)) fun l167 => some l167) fun a => Ret (Option.bind (chk .i64 ((n : Int) + 1)) fun n193 => some (Sum.inl (a, n193) : (List Report × Int) ⊕ List Report)) (Nxt (fun s' : List Report × Int => (∃ n : Nat, s'.2 = n ∧ n ≤ l.length ∧ s'.1 = ((l.take n).filter (nq r)).map (mf r y)) ∧ l.length - s'.2.toNat < l.length - (n : Int).toNat) Q) := fun hq a b e Q => by
          refine Ret.bind (Ret.appo (by simp at hfl ⊢; omega) (by simp at hfl ⊢; omega) (Ret.ok (next _ ?_ _)))
          rw [← put hq, e]
        refine Ret.bind (Ret.bind (Ret.ixo (List.getElem?_eq_getElem hlt) (Ret.bind ?_)))
        have go : nq r l[n] = true → ∀ Q, Ret (Option.bind (Option.bind (_root_.cond (decide (l[n].id = r.id)) (Option.bind (some (y.about, y.cents)) fun (x155, x156) => some (x155, x156)) (some (l[n].about, l[n].cents))) fun (x157, x158) => some (x157, x158)) fun (x159, x160) => Option.bind (appo 64 (((l.take n).filter (nq r)).map (mf r y)) ([(Report.mk l[n].id l[n].source l[n].account l[n].made x159 l[n].kind x160 l[n].of_)] : List Report)) fun l167 => some l167) fun a => Ret (Option.bind (chk .i64 ((n : Int) + 1)) fun n193 => some (Sum.inl (a, n193) : (List Report × Int) ⊕ List Report)) (Nxt (fun s' : List Report × Int => (∃ n : Nat, s'.2 = n ∧ n ≤ l.length ∧ s'.1 = ((l.take n).filter (nq r)).map (mf r y)) ∧ l.length - s'.2.toNat < l.length - (n : Int).toNat) Q) := fun hq Q => by
          refine Ret.bind (Ret.bind (Ret.cond (fun e => Ret.bind (Ret.ok (Ret.ok (Ret.ok (app hq _ _ (by unfold mf; rw [if_pos (of_decide_eq_true e)]) _))))) fun e => Ret.ok (Ret.ok (app hq _ _ (by unfold mf; rw [if_neg (of_decide_eq_false e)]) _))))
        refine Ret.cond (fun e1 => Ret.ok ?_) fun e1 => Ret.ok (Ret.condF rfl (go (by unfold nq; rw [e1]; rfl) _))
        refine Ret.cond (fun e2 => Ret.ok (next _ (stay (by unfold nq; rw [e1, e2]; rfl)) _)) fun e2 => go (by unfold nq; rw [e1, e2]; rfl) _
      · have hge : n = l.length := by have := of_decide_eq_false h; omega
        subst hge
        rw [List.take_length]
        refine Ret.done ?_
        have mr : ∀ x ∈ l, x.id = r.id → mf r y x = fix K r := fun x hx e => by
          obtain rfl := hC x hx r hrl e
          exact (fix_r hK.ok hrK h7' hwn hb).symm
        have hvf : V (fix K r) := by
          classical
          refine (T_v hK.ok ?_).1
          unfold T
          exact List.mem_map.2 ⟨r, List.mem_filter.2 ⟨hrK, decide_eq_true ⟨h7', hwn⟩⟩, rfl⟩
        have hv' : ∀ x ∈ (l.filter (nq r)).map (mf r y), V x := fun x hx => by
          obtain ⟨z, hz, rfl⟩ := List.mem_map.1 hx
          have hzl := (List.mem_filter.1 hz).1
          by_cases e : z.id = r.id
          · rw [mr z hzl e]; exact hvf
          · rw [mf_other e]; exact hV z hzl
        have c' : chkE ((l.filter (nq r)).map (mf r y)) = 0 := by
          refine chk_ok (by rw [List.length_map]; exact Nat.le_trans (List.length_filter_le _ _) hl) hv' fun a ha b hb' e => ?_
          obtain ⟨a, haf, rfl⟩ := List.mem_map.1 ha
          obtain ⟨b, hbf, rfl⟩ := List.mem_map.1 hb'
          rw [(mf_same r y a).1, (mf_same r y b).1] at e
          rw [hC a (List.mem_filter.1 haf).1 b (List.mem_filter.1 hbf).1 e]
        have hk' : Kw ((l.filter (nq r)).map (mf r y)) known ((K.filter (nq r)).map (mf r y)) := by
          refine ⟨fun x => ?_, ok_now hK.ok hrK h7' hwn hb⟩
          rw [List.mem_map, List.mem_map]
          constructor
          · rintro ⟨a, ha, rfl⟩
            obtain ⟨h1, h2⟩ := List.mem_filter.1 ha
            obtain ⟨h3, h4⟩ := (hK.mem a).1 h1
            exact ⟨⟨a, List.mem_filter.2 ⟨h3, h2⟩, rfl⟩, by rw [(mf_same r y a).2.2.2.1]; exact h4⟩
          · rintro ⟨⟨a, ha, rfl⟩, hm⟩
            obtain ⟨h1, h2⟩ := List.mem_filter.1 ha
            rw [(mf_same r y a).2.2.2.1] at hm
            exact ⟨a, List.mem_filter.2 ⟨(hK.mem a).2 ⟨h1, hm⟩, h2⟩, rfl⟩
        have same : ∀ F F', Fc l known F → Fc ((l.filter (nq r)).map (mf r y)) known F' → F' = F := fun F F' hF hF' => by
          have hp : F'.Perm F := (hF'.kw hk').trans ((T_now hK.ok hrK h7' hwn hb).symm.trans (hF.kw hK).symm)
          exact two_one hp hF'.fo.s hF.fo.s hF'.fo.nd
        have hin' : ∀ x ∈ (l.filter (nq r)).map (mf r y), InR x := fun x hx => (hv' x hx).inR
        refine Ret.bind (r_State1 hin c (in3 hid hd) fun F hF => Ret.bind (r_State1 hin' c' (in3 hid hd) fun F' hF' => ?_))
        obtain rfl := same F F' hF hF'
        refine Ret.bind (r_Standing1 hin c hk fun G hG => Ret.bind (r_Standing1 hin' c' hk fun G' hG' => ?_))
        obtain rfl := hG.uniq hF fun x => Iff.rfl
        obtain rfl := hG'.uniq hF' fun x => Iff.rfl
        have fo := hF.fo
        have f3 := fo.len
        dsimp only
        refine Ret.bind (Ret.condT rfl (Ret.condT rfl (Ret.condT rfl (Ret.condT rfl (Ret.condT rfl ?_)))))
        refine Ret.bind (Ret.val (r_sameS (few_st (fo.filter _))) (Ret.condT rfl ?_))
        exact Ret.bind (r_same (by omega) (Ret.ok (Ret.ok rfl)))
  · rw [ft_six (fun x hx e => hrm (by
      obtain ⟨hx1, hx2⟩ := (hK.mem x).1 hx
      rw [← hC x hx1 r hrl e]; exact hx2)) hK.ok]
    dsimp only
    exact Ret.bind (Ret.condT rfl (Ret.ok (Ret.condT rfl (Ret.bind (Ret.condT rfl (Ret.condF rfl (Ret.ok (Ret.ok rfl))))))))
end S
end Go.Proofs.YtepjkmoipjeghaaDoor
