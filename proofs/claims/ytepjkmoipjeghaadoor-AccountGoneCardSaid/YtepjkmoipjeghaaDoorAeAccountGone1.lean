/-
  Part AccountGone 1 of the texts that the statement's proof stands on: what memory holds, how code is walked, what the functions reckon. In the order in which they build.
-/
import Derived.Test.YtepjkmoipjeghaaDoorProg
import Derived.Test.YtepjkmoipjeghaaDoorAe9
set_option linter.unusedVariables false
set_option linter.unusedSectionVars false
set_option maxRecDepth 20000
set_option maxHeartbeats 4000000
namespace Go.Proofs.YtepjkmoipjeghaaDoor
open Go Go.Sx Go.RowKit
noncomputable def P.law03_AccountGone_in1 (also : Bool) (l_c : (List Report)) (r_c : Report) : Option (List Report) :=
  Option.bind (loopM (S := (List Report) × Int) (R := ((List Report))) (fun (x1, x2) => cond (decide (x2 < (l_c.length : Int))) (Option.bind (Option.bind (ixo l_c x2) fun y4 => Option.bind (cond (!decide (y4.id = r_c.id)) (cond (!also) (some true) (cond (!decide (y4.kind = 9)) (some true) (some (!decide (y4.of_ = r_c.id))))) (some false)) fun x30 => Option.bind (cond x30 (Option.bind (appo 64 x1 ([(Report.mk y4.id y4.source y4.account y4.made y4.about y4.kind y4.cents y4.of_)] : List Report)) fun l38 => some l38) (some x1)) fun x43 => some x43) fun x44 => Option.bind (chk .i64 (x2 + 1)) fun n45 => some (.inl (x44, n45))) (some (.inr x1))) ([], 0)) fun x46 => some x46
theorem C_law03_AccountGone_in1 {M : List Nat} {w : World} (hM : MLt M w) {also : Bool} {l_c : (List Report)} {v_l_c_0 : Value} (f_l_c_0 : RdS ReportE M w v_l_c_0 l_c) {b_l_c : Nat} (c_l_c : RdC M w b_l_c 0 [v_l_c_0]) {r_c : Report} (f_r_c_0 : InK .i64 r_c.id) (f_r_c_1 : InK .i64 r_c.source) (f_r_c_2 : InK .i64 r_c.account) (f_r_c_3 : InK .i64 r_c.made) (f_r_c_4 : InK .i64 r_c.about) (f_r_c_5 : InK .u8 r_c.kind) (f_r_c_6 : InK .i64 r_c.cents) (f_r_c_7 : InK .i64 r_c.of_) {b_r_c : Nat} (c_r_c : RdC M w b_r_c 0 (vR r_c)) {r0 : (List Report)} (h : P.law03_AccountGone_in1 also l_c r_c = some r0) :
  Calls Tryd.prog 34 (List.toArray [Value.bool also, vp b_l_c 0, vp b_r_c 0]) w fun e w' => ∃ v0_0 : Value, e = .returned (v0_0) ∧ (Sx.Own ReportE 61 0 M w' v0_0 r0 ∧ ∀ b ∈ ob v0_0, w.heap.size ≤ b) ∧ Ext w w' := by
 have hI := Hp.start (Mu := []) hM
 refine calls_cw Tryd.func34 rfl Tryd.ntmps34 rfl ?_
 refine cw_seq (cw_regF (s_as rfl rfl (Reg.nil (cw_seq (cw_regF (s_as rfl rfl (Reg.nil (cw_seq (cw_seq (cw_regF (s_ld rfl (c_l_c.cells.at 0 rfl) Tryd.isAgg22 rfl ?_)))))))))))
 refine s_len rfl f_l_c_0 Tryd.underlying22 rfl (s_mv rfl rfl (Reg.nil ?_))
 obtain ⟨j1, h2, h⟩ := bnd h
 refine cw_keep [0, 2, 5, 8, 9, 10] rfl (cw_unitD 6 (ι := (List Report) × Value) (fun ⟨x3, v4⟩ => [(5, v4)]) (fun ⟨x3, v4⟩ => fun w5 => Hp w [] M [ownR [] ReportE 61 v4 x3] w5 ∧ Adv (mm [] M) (mm [ownR [] ReportE 61 v4 x3] M) w w5 ∧ x3 = j1) ?_ ?_)
 ·refine cw_block (cw_keep [5, 10, 0, 2, 8, 9] rfl ?_)
  have hI15 := hI.addNil ReportE 61
  refine cw_loopM 2 (ι := (List Report) × Int × Value) _ (fun ⟨x8, x10, v9⟩ => [(5, v9), (10, vi x10)]) (fun ⟨x8, x10, v9⟩ => (x8, x10)) (fun ⟨x8, x10, v9⟩ => fun w12 => Hp w [] M [ownR [] ReportE 61 v9 x8] w12 ∧ Adv (mm [] M) (mm [ownR [] ReportE 61 v9 x8] M) w w12 ∧ InK .i64 x10) (([] : List Report), 0, (vn)) h2 ⟨hI15, hI15.adv, (by decide)⟩ (sb6 rfl rfl rfl rfl rfl rfl) ?_
  rintro ⟨x8, x10, v9⟩ w12 ⟨hI13, hA14, r11⟩ y16 h17 hR18
  refine cw_seq (cw_regF (s_lss rfl rfl rfl (Reg.nil (cw_seq (cw_cond rfl (fun hc19 => ?_) (fun hc19 => ?_))))))
  ·replace h17 := cdT hc19 h17
   refine cw_skip ?_
   obtain ⟨j20, h21, h17⟩ := bnd h17
   refine cw_keep [5, 0, 2, 8, 9, 10] rfl (cw_seqD 1 (ι := (List Report) × Value) (fun ⟨x22, v23⟩ => [(5, v23)]) (fun ⟨x22, v23⟩ => fun w24 => Hp w [] M [ownR [] ReportE 61 v23 x22] w24 ∧ Adv (mm [ownR [] ReportE 61 v9 x8] M) (mm [ownR [] ReportE 61 v23 x22] M) w12 w24 ∧ x22 = j20) ?_ ?_)
   ·refine cw_block (cw_seq (cw_regF ?_))
    obtain ⟨y27, hy27, h21⟩ := bnd h21
    refine p_ia rfl rfl (f_l_c_0.adv hI13.adv) hy27 Tryd.underlying22 Tryd.sizeOf61 rfl ?_
    intro b28 o29 cs30 hR31 hC32
    obtain ⟨rfl, r33, r34, r35, r36, r37, r38, r39, r40⟩ := ReportE_R.1 hR31
    refine s_lda rfl hC32.cells Tryd.isAgg61 rfl Tryd.sizeOf61 rfl (y_al hI13 Tryd.zeroValue61 rfl rfl ?_)
    intro b41 w42 hI43 x44
    refine y_st 0 hI43 rfl rfl rfl rfl Tryd.sizeOf61 rfl rfl (on8 rfl rfl rfl rfl rfl rfl rfl rfl) ?_
    intro w45 hI46 x47
    have hC49 := hI46.freezeRow 0 rfl
    have hI48 := hI46.erase 0
    refine Reg.nil ?_
    obtain ⟨j50, h51, h21⟩ := bnd h21
    refine cw_keep [0, 2, 5, 7, 8, 9, 10] rfl (cw_seqD 0 (ι := Bool) (fun x52 => [(34, Value.bool x52)]) (fun x52 => fun w53 => w45 = w53 ∧ x52 = j50) ?_ ?_)
    ·refine cw_regF (s_fa rfl Tryd.underlying61 rfl Tryd.sizeOf3 rfl (s_ld rfl (hC49.cells.at 0 rfl) Tryd.isAgg3 rfl (s_fa rfl Tryd.underlying61 rfl Tryd.sizeOf3 rfl (s_ld rfl ((c_r_c.adv hI48.adv).cells.at 0 rfl) Tryd.isAgg3 rfl (s_neq rfl rfl rfl (s_mv rfl rfl (Reg.gsplit (t := 19) rfl (fun hg56 => ?_) (fun hg56 => ?_))))))))
     ·replace h51 := cdT hg56 h51
      refine Reg.take rfl rfl (s_mv rfl rfl (Reg.take rfl rfl (s_not rfl rfl (Reg.take rfl rfl (s_mv rfl rfl (Reg.gsplit (t := 22) rfl (fun hg57 => ?_) (fun hg57 => ?_)))))))
      ·replace h51 := cdT hg57 h51
       iterate 3 refine Reg.pass rfl rfl rfl rfl ?_
       refine Reg.take rfl rfl (s_pkT rfl rfl rfl (Reg.take rfl rfl (s_mv rfl rfl ?_)))
       iterate 5 refine Reg.pass rfl rfl rfl rfl ?_
       refine Reg.take rfl rfl (s_pkT rfl rfl rfl (s_pkT rfl rfl rfl (Reg.nil ?_)))
       obtain rfl := Option.some.inj h51
       refine ⟨rfl, true, ⟨rfl, rfl⟩, sb8 rfl rfl rfl rfl rfl rfl rfl rfl⟩
      replace h51 := cdF hg57 h51
      refine Reg.take rfl rfl (s_fa rfl Tryd.underlying61 rfl Tryd.sizeOf5 rfl (Reg.take rfl rfl (s_ld rfl (hC49.cells.at 5 rfl) Tryd.isAgg5 rfl (Reg.take rfl rfl (s_neq rfl rfl rfl (Reg.take rfl rfl (s_pkF rfl rfl rfl (Reg.take rfl rfl (s_mv rfl rfl (Reg.gsplit (t := 27) rfl (fun hg58 => ?_) (fun hg58 => ?_)))))))))))
      ·replace h51 := cdT hg58 h51
       iterate 5 refine Reg.pass rfl rfl rfl rfl ?_
       refine Reg.take rfl rfl (s_pkT rfl rfl rfl (s_pkT rfl rfl rfl (Reg.nil ?_)))
       obtain rfl := Option.some.inj h51
       refine ⟨rfl, true, ⟨rfl, rfl⟩, sb8 rfl rfl rfl rfl rfl rfl rfl rfl⟩
      replace h51 := cdF hg58 h51
      refine Reg.take rfl rfl (s_fa rfl Tryd.underlying61 rfl Tryd.sizeOf3 rfl (Reg.take rfl rfl (s_ld rfl (hC49.cells.at 7 rfl) Tryd.isAgg3 rfl (Reg.take rfl rfl (s_fa rfl Tryd.underlying61 rfl Tryd.sizeOf3 rfl (Reg.take rfl rfl (s_ld rfl ((c_r_c.adv hI48.adv).cells.at 0 rfl) Tryd.isAgg3 rfl (Reg.take rfl rfl (s_neq rfl rfl rfl (Reg.take rfl rfl (s_pkF rfl rfl rfl ?_)))))))))))
      refine s_pkT rfl rfl rfl (Reg.nil ?_)
      obtain rfl := Option.some.inj h51
      refine ⟨rfl, !decide (y27.of_ = r_c.id), ⟨rfl, rfl⟩, sb8 rfl rfl rfl rfl rfl rfl rfl rfl⟩
     replace h51 := cdF hg56 h51
     iterate 3 refine Reg.pass rfl rfl rfl rfl ?_
     iterate 3 refine Reg.passU rfl rfl rfl ?_
     refine Reg.pass rfl rfl rfl rfl (Reg.pass rfl rfl rfl rfl ?_)
     iterate 5 refine Reg.passU rfl rfl rfl ?_
     refine Reg.pass rfl rfl rfl rfl (s_pkF rfl rfl rfl (Reg.nil ?_))
     obtain rfl := Option.some.inj h51
     refine ⟨rfl, false, ⟨rfl, rfl⟩, sb8 rfl rfl rfl rfl rfl rfl rfl rfl⟩
    rintro x52 _ ⟨rfl, rfl⟩
    obtain ⟨j59, h60, h21⟩ := bnd h21
    refine cw_keep [5, 7, 34, 0, 2, 8, 9, 10] rfl (cw_unitD 3 (ι := (List Report) × Value) (fun ⟨x61, v62⟩ => [(5, v62)]) (fun ⟨x61, v62⟩ => fun w63 => Hp w [] M [ownR [] ReportE 61 v62 x61] w63 ∧ Adv (mm [ownR [] ReportE 61 v9 x8] M) (mm [ownR [] ReportE 61 v62 x61] M) w45 w63 ∧ x61 = j59) ?_ ?_)
    ·refine cw_cond rfl (fun hc66 => ?_) (fun hc66 => ?_)
     ·replace h60 := cdT hc66 h60
      refine cw_regF (s_mv rfl rfl (s_lda rfl hC49.cells Tryd.isAgg61 rfl Tryd.sizeOf61 rfl (y_bs (E := ReportE) (xs := [(Report.mk y27.id y27.source y27.account y27.made y27.about y27.kind y27.cents y27.of_)]) sl22 hI48 rfl rfl (Cls.cons rfl Cls.nil) (Chs.cons ((ReportE_R (x := (Report.mk y27.id y27.source y27.account y27.made y27.about y27.kind y27.cents y27.of_))).2 ⟨rfl, r33, r34, r35, r36, r37, r38, r39, r40⟩) Chs.nil) rfl rfl ?_)))
      intro v67 w68 hI69 x70
      have hf71 := hI69.freeze 0 rfl
      have hI72 := hI69.erase 0
      obtain ⟨l73, hl73, h60⟩ := bnd h60
      obtain ⟨hbl73, el73⟩ := appo_out hl73
      refine y_app 0 sl22 hI72 rfl rfl rfl hf71 hbl73 rfl ?_
      rw [← el73]
      intro v74 w75 hI76 x77
      refine s_as rfl rfl (Reg.nil ?_)
      obtain rfl := Option.some.inj h60
      refine ⟨rfl, (l73, v74), ⟨hI76, (x70.trans ((hI69.eraseH 0).trans x77)), rfl⟩, sb6 rfl rfl rfl rfl rfl rfl⟩
     replace h60 := cdF hc66 h60
     refine cw_skip ?_
     obtain rfl := Option.some.inj h60
     refine ⟨rfl, (x8, v9), ⟨hI48, (Adv.refl _ _), rfl⟩, sb6 rfl rfl rfl rfl rfl rfl⟩
    rintro ⟨x61, v62⟩ w63 ⟨hI64, hA65, rfl⟩
    obtain rfl := Option.some.inj h21
    refine ⟨rfl, (x61, v62), ⟨hI64, (x44.trans (x47.trans ((hI46.eraseH 0).trans hA65))), rfl⟩, sb6 rfl rfl rfl rfl rfl rfl⟩
   rintro ⟨x22, v23⟩ w24 ⟨hI25, hA26, rfl⟩
   refine cw_regF ?_
   obtain ⟨n78, hn78, h17⟩ := bnd h17
   replace hn78 := chk_out hn78
   refine p_add rfl rfl rfl hn78 (s_mv rfl rfl (Reg.nil ?_))
   obtain rfl := Option.some.inj h17
   refine ⟨rfl, (x22, n78, v23), ⟨⟨hI25, hI25.adv, hn78.2⟩, rfl⟩, sb6 rfl rfl rfl rfl rfl rfl⟩
  replace h17 := cdF hc19 h17
  refine cw_exit (exB_same ?_)
  obtain rfl := Option.some.inj h17
  obtain rfl := hR18 _ rfl
  refine ⟨rfl, (x8, v9), ⟨hI13, hI13.adv, rfl⟩, sb1 rfl⟩
 rintro ⟨x3, v4⟩ w5 ⟨hI6, hA7, rfl⟩
 refine cw_seq (cw_regF (s_mv rfl rfl (s_as rfl rfl (Reg.nil (cw_ret ?_)))))
 obtain rfl := Option.some.inj h
 refine fin1 Tryd.results34 rfl ?_
 exact ⟨_, rfl, (hI6.ownOut 0 rfl), hI6.kp⟩
noncomputable def P.law03_AccountGone (l : (List Report)) (id : Int) (day : Int) (known : Int) (which : Int) : Option Bool :=
  Option.bind (P.law03_alive ) fun z7 => Option.bind (Option.bind (P.law03_ready l id ([day, known] : List Int)) fun z16 => cond (!z16) (some true) (cond (decide ((l.length : Int) = 0)) (some true) (some (!z7)))) fun x23 => cond x23 (some z7) (Option.bind (chk .i64 which) fun n25 => Option.bind (remO n25 (l.length : Int)) fun n26 => Option.bind (ixo l n26) fun y27 => Option.bind (P.account_State l id day known) fun (z48, z49) => Option.bind (P.account_Fate l y27.id known) fun (z97, z98, z99) => cond (!decide (z49 = 0)) (some false) (cond (!decide (z99 = 0)) (Option.bind (cond z7 (cond (decide (z99 = 6)) (some (decide (known < y27.made))) (some false)) (some false)) fun x111 => some x111) (Option.bind (Option.bind (cond (decide (z97 = 2)) (Option.bind (P.law03_find l z98) fun (z113, z114) => Option.bind (cond (!z114) (some true) (cond (!decide (z113.kind = 9)) (some true) (cond (!decide (z113.of_ = y27.id)) (some true) (cond (!decide (z113.source = y27.source)) (some true) (cond (!decide (z113.account = y27.account)) (some true) (some (decide (known < z113.made)))))))) fun x141 => cond x141 (some (.inr false)) (Option.bind (P.law03_AccountGone_in1 true l (Report.mk y27.id y27.source y27.account y27.made y27.about y27.kind y27.cents y27.of_)) fun z143 => some (.inl z143))) (Option.bind (cond (decide (z97 = 3)) (cond (decide (z98 = (-1))) (some true) (some (!decide (y27.account = id)))) (some (!decide (y27.account = id)))) fun x151 => cond x151 (Option.bind (P.law03_AccountGone_in1 false l (Report.mk y27.id y27.source y27.account y27.made y27.about y27.kind y27.cents y27.of_)) fun z153 => some (.inl z153)) (Option.bind (cond z7 (cond (decide (z97 = 4)) (cond (decide (z98 = (-1))) (some true) (cond (decide (z97 = 0)) (cond (decide (z98 = (-1))) (some true) (cond (decide (z97 = 1)) (some (decide (0 ≤ z98))) (some false))) (cond (decide (z97 = 1)) (some (decide (0 ≤ z98))) (some false)))) (cond (decide (z97 = 0)) (cond (decide (z98 = (-1))) (some true) (cond (decide (z97 = 1)) (some (decide (0 ≤ z98))) (some false))) (cond (decide (z97 = 1)) (some (decide (0 ≤ z98))) (some false)))) (some false)) fun x170 => some (.inr x170)))) fun j171 => Sum.elim (fun x172 => some (.inl x172)) (fun r173 => some (.inr r173))  j171) fun j174 => Sum.elim (fun x175 => Option.bind (P.account_State x175 id day known) fun (z178, z179) => Option.bind (cond z7 (cond (decide (z179 = 0)) (Option.bind (P.ref03_SameState (State.mk (Told.mk z48.opened.known z48.opened.cents z48.opened.since z48.opened.by_) (Told.mk z48.limit.known z48.limit.cents z48.limit.since z48.limit.by_) (Told.mk z48.owed.known z48.owed.cents z48.owed.since z48.owed.by_) (Told.mk z48.late.known z48.late.cents z48.late.since z48.late.by_) (Told.mk z48.default.known z48.default.cents z48.default.since z48.default.by_) (Told.mk z48.closed.known z48.closed.cents z48.closed.since z48.closed.by_) (Span.mk z48.paid.lo z48.paid.hi) z48.is_) (State.mk (Told.mk z178.opened.known z178.opened.cents z178.opened.since z178.opened.by_) (Told.mk z178.limit.known z178.limit.cents z178.limit.since z178.limit.by_) (Told.mk z178.owed.known z178.owed.cents z178.owed.since z178.owed.by_) (Told.mk z178.late.known z178.late.cents z178.late.since z178.late.by_) (Told.mk z178.default.known z178.default.cents z178.default.since z178.default.by_) (Told.mk z178.closed.known z178.closed.cents z178.closed.since z178.closed.by_) (Span.mk z178.paid.lo z178.paid.hi) z178.is_)) fun z229 => some z229) (some false)) (some false)) fun x234 => some x234) (fun r235 => some r235)  j174)))
theorem C_law03_AccountGone {M : List Nat} {w : World} (hM : MLt M w) (hG : RdC M w 0 0 (glob0.map (Value.int .i64))) {l : (List Report)} {v_l_0 : Value} (f_l_0 : RdS ReportE M w v_l_0 l) {id : Int} (f_id_0 : InK .i64 id) {day : Int} (f_day_0 : InK .i64 day) {known : Int} (f_known_0 : InK .i64 known) {which : Int} (f_which_0 : InK .u8 which) {r0 : Bool} (h : P.law03_AccountGone l id day known which = some r0) :
  Calls Tryd.prog 9 (List.toArray [v_l_0, vi id, vi day, vi known, vu which]) w fun e w' => e = .returned (Value.bool r0) ∧ Ext w w' := by
 have hI := Hp.start (Mu := []) hM
 refine calls_cw Tryd.func9 rfl Tryd.ntmps9 rfl ?_
 refine cw_seq (cw_regF (y_box hI rfl (RdS.cells1 f_l_0) rfl ?_))
 intro b1 w2 hI3 x4
 have hC6 := hI3.freezeRow 0 rfl
 have hI5 := hI3.erase 0
 refine s_as rfl rfl (Reg.nil (cw_seq (cw_regF ?_)))
 obtain ⟨z7, hz8, h⟩ := bnd h
 refine s_call rfl Tryd.call26 rfl ((C_law03_alive hI5.mlt (hG.adv hI5.adv) hz8).mono ?_)
 rintro _ w9 ⟨rfl, e10⟩
 refine ⟨_, rfl, ?_⟩
 have hI11 := hI5.ext e10
 refine s_as rfl rfl (Reg.nil (cw_seq ?_))
 obtain ⟨j12, h13, h⟩ := bnd h
 refine cw_keep [1, 2, 3, 4, 5, 11] rfl (cw_seqD 0 (ι := Bool) (fun x14 => [(40, Value.bool x14)]) (fun x14 => fun w15 => Hp w [] M [] w15 ∧ Adv (mm [] M) (mm [] M) w9 w15 ∧ x14 = j12) ?_ ?_)
 ·refine cw_regF (s_ld rfl ((hC6.adv (Adv.of_ext e10)).cells.at 0 rfl) Tryd.isAgg22 rfl ?_)
  iterate 3 refine s_mv rfl rfl ?_
  refine y_bs (E := (intE .i64)) (xs := [day, known]) sl36 hI11 rfl rfl (Cls.cons rfl (Cls.cons rfl Cls.nil)) (Chs.cons ⟨rfl, f_day_0⟩ (Chs.cons ⟨rfl, f_known_0⟩ Chs.nil)) rfl rfl ?_
  intro v18 w19 hI20 x21
  obtain ⟨z22, hz23, h13⟩ := bnd h13
  refine s_call rfl Tryd.call30 rfl ((C_law03_ready (hI20.sel [] rfl).mlt ((f_l_0.adv hI20.adv).adv (Hp.selA (σ := [ownR [] (intE .i64) 3 v18 ([day, known] : List Int)]) [])) f_id_0 (hI20.lendRd [] 0 rfl rfl) hz23).mono ?_)
  rintro _ w24 ⟨rfl, e25⟩
  refine ⟨_, rfl, ?_⟩
  have hI26 := hI20.ext e25
  refine s_not rfl rfl (s_mv rfl rfl (Reg.gsplit (t := 32) rfl (fun hg27 => ?_) (fun hg27 => ?_)))
  ·replace h13 := cdT hg27 h13
   iterate 3 refine Reg.pass rfl rfl rfl rfl ?_
   refine s_pkT rfl rfl rfl (s_mv rfl rfl (Reg.pass rfl rfl rfl rfl (Reg.pass rfl rfl rfl rfl (s_pkT rfl rfl rfl (Reg.nil ?_)))))
   obtain rfl := Option.some.inj h13
   refine ⟨rfl, true, ⟨(hI26.sel [] rfl), ((x21.trans (Adv.of_ext e25)).trans (Hp.selA (σ := [ownR [] (intE .i64) 3 v18 ([day, known] : List Int)]) [])), rfl⟩, sb7 rfl rfl rfl rfl rfl rfl rfl⟩
  replace h13 := cdF hg27 h13
  refine Reg.take rfl rfl (s_ld rfl ((hC6.adv ((Adv.of_ext e10).trans (x21.trans (Adv.of_ext e25)))).cells.at 0 rfl) Tryd.isAgg22 rfl (Reg.take rfl rfl (s_len rfl (f_l_0.adv hI26.adv) Tryd.underlying22 rfl (Reg.take rfl rfl (s_eql rfl rfl rfl (s_pkF rfl rfl rfl (s_mv rfl rfl (Reg.gsplit (t := 37) rfl (fun hg28 => ?_) (fun hg28 => ?_)))))))))
  ·replace h13 := cdT hg28 h13
   refine Reg.pass rfl rfl rfl rfl (Reg.pass rfl rfl rfl rfl (s_pkT rfl rfl rfl (Reg.nil ?_)))
   obtain rfl := Option.some.inj h13
   refine ⟨rfl, true, ⟨(hI26.sel [] rfl), ((x21.trans (Adv.of_ext e25)).trans (Hp.selA (σ := [ownR [] (intE .i64) 3 v18 ([day, known] : List Int)]) [])), rfl⟩, sb7 rfl rfl rfl rfl rfl rfl rfl⟩
  replace h13 := cdF hg28 h13
  refine Reg.take rfl rfl (s_mv rfl rfl (Reg.take rfl rfl (s_not rfl rfl (s_pkF rfl rfl rfl (Reg.nil ?_)))))
  obtain rfl := Option.some.inj h13
  refine ⟨rfl, !z7, ⟨(hI26.sel [] rfl), ((x21.trans (Adv.of_ext e25)).trans (Hp.selA (σ := [ownR [] (intE .i64) 3 v18 ([day, known] : List Int)]) [])), rfl⟩, sb7 rfl rfl rfl rfl rfl rfl rfl⟩
 rintro x14 w15 ⟨hI16, hA17, rfl⟩
 refine cw_cond rfl (fun hc29 => ?_) (fun hc29 => ?_)
 ·replace h := cdT hc29 h
  refine cw_seq (cw_regF (s_mv rfl rfl (s_as rfl rfl (Reg.nil (cw_ret ?_)))))
  obtain rfl := Option.some.inj h
  refine fin1 Tryd.results9 rfl ?_
  exact ⟨rfl, hI16.kp⟩
 replace h := cdF hc29 h
 refine cw_skip (cw_seq ?_)
 refine cw_regRows [0, 1, 2, 3, 4, 5, 6, 7] [⟨8, 12, 61, zR, 9, []⟩] fol (by kernel_rfl) rfl rfl ⟨⟨_, _, _, _, rfl, Tryd.zeroValue61, rfl⟩, trivial⟩ ?_
 refine s_ld rfl ((hC6.adv ((Adv.of_ext e10).trans hA17)).cells.at 0 rfl) Tryd.isAgg22 rfl (s_mv rfl rfl ?_)
 obtain ⟨n30, hn30, h⟩ := bnd h
 replace hn30 := chk_out hn30
 refine p_cvt rfl Tryd.underlying5 Tryd.underlying3 rfl hn30 ?_
 refine s_ld rfl ((hC6.adv ((Adv.of_ext e10).trans hA17)).cells.at 0 rfl) Tryd.isAgg22 rfl (s_len rfl (f_l_0.adv hI16.adv) Tryd.underlying22 rfl ?_)
 obtain ⟨n31, hn31, h⟩ := bnd h
 have kn31 := remO_out hn31
 refine p_rem rfl rfl rfl kn31 ?_
 obtain ⟨y32, hy32, h⟩ := bnd h
 refine p_ia rfl rfl (f_l_0.adv hI16.adv) hy32 Tryd.underlying22 Tryd.sizeOf61 rfl ?_
 intro b33 o34 cs35 hR36 hC37
 obtain ⟨rfl, r38, r39, r40, r41, r42, r43, r44, r45⟩ := ReportE_R.1 hR36
 refine s_lda rfl hC37.cells Tryd.isAgg61 rfl Tryd.sizeOf61 rfl (Reg.nilX ⟨rfl, [_], ⟨storeOk rfl (fun _ => rfl) rfl Tryd.sizeOf61 rfl rfl (on8 rfl rfl rfl rfl rfl rfl rfl rfl), trivial⟩, ?_⟩)
 intro w46 e47
 simp only [zipC, rowsOut]
 intro b48 hb49 hW50 s51
 simp only [setAt] at hW50
 replace hW50 := RdC.of_row (M := mm [] M) (hI16.mlt.nin hb49) hW50
 have hI52 := hI16.ext e47
 refine cw_seq (cw_regF (s_ld rfl ((hC6.adv ((Adv.of_ext e10).trans (hA17.trans (Adv.of_ext e47)))).cells.at 0 rfl) Tryd.isAgg22 rfl ?_))
 iterate 3 refine s_mv rfl rfl ?_
 obtain ⟨⟨z53, z54⟩, hz55, h⟩ := bnd h
 refine s_call rfl Tryd.call20 rfl ((C_account_State hI52.mlt (hG.adv hI52.adv) (f_l_0.adv hI52.adv) f_id_0 f_day_0 f_known_0 hz55).mono ?_)
 rintro _ w56 ⟨v61, v66, v71, v76, v81, v86, rfl, r58, r59, r60, hf62, r63, r64, r65, hf67, r68, r69, r70, hf72, r73, r74, r75, hf77, r78, r79, r80, hf82, r83, r84, r85, hf87, r88, r89, r90, r91, e57⟩
 refine ⟨_, rfl, ?_⟩
 have hI92 := hI52.ext e57
 refine s_mv rfl rfl (s_xt rfl rfl rfl (s_xt rfl rfl rfl (y_al hI92 Tryd.zeroValue42 rfl rfl ?_)))
 intro b93 w94 hI95 x96
 refine y_st 0 hI95 rfl rfl rfl rfl Tryd.sizeOf42 rfl rfl (one1 rfl (one1 rfl (one1 rfl (one1 (RdS.oneC hf62) (one1 rfl (one1 rfl (one1 rfl (one1 (RdS.oneC hf67) (one1 rfl (one1 rfl (one1 rfl (one1 (RdS.oneC hf72) (one1 rfl (one1 rfl (one1 rfl (one1 (RdS.oneC hf77) (one1 rfl (one1 rfl (one1 rfl (one1 (RdS.oneC hf82) (one1 rfl (one1 rfl (one1 rfl (one1 (RdS.oneC hf87) (on3 rfl rfl rfl))))))))))))))))))))))))) ?_
 intro w97 hI98 x99
 have hC101 := hI98.freezeRow 0 rfl
 have hI100 := hI98.erase 0
 refine s_as rfl rfl (Reg.nil (cw_seq (cw_regF (s_ld rfl ((hC6.adv ((Adv.of_ext e10).trans (hA17.trans ((Adv.of_ext e47).trans ((Adv.of_ext e57).trans (x96.trans (x99.trans (hI98.eraseH 0)))))))).cells.at 0 rfl) Tryd.isAgg22 rfl (s_fa rfl Tryd.underlying61 rfl Tryd.sizeOf3 rfl (s_ld rfl ((hW50.adv ((Adv.of_ext e57).trans (x96.trans (x99.trans (hI98.eraseH 0))))).cells.at 0 rfl) Tryd.isAgg3 rfl (s_mv rfl rfl ?_)))))))
 obtain ⟨⟨z102, z103, z104⟩, hz105, h⟩ := bnd h
 refine s_call rfl Tryd.call15 rfl ((C_account_Fate hI100.mlt (hG.adv hI100.adv) (f_l_0.adv hI100.adv) r38 f_known_0 hz105).mono ?_)
 rintro _ w106 ⟨rfl, r108, r109, r110, e107⟩
 refine ⟨_, rfl, ?_⟩
 have hI111 := hI100.ext e107
 refine s_mv rfl rfl ?_
 iterate 3 refine s_xt rfl rfl rfl ?_
 iterate 3 refine s_as rfl rfl ?_
 refine Reg.nil (cw_seq (cw_seq (cw_regF (s_mv rfl rfl (s_neq rfl rfl rfl (Reg.nil (cw_cond rfl (fun hc112 => ?_) (fun hc112 => ?_))))))))
 ·replace h := cdT hc112 h
  refine cw_seq (cw_regF (s_as rfl rfl (Reg.nil (cw_ret ?_))))
  obtain rfl := Option.some.inj h
  refine fin1 Tryd.results9 rfl ?_
  exact ⟨rfl, hI111.kp⟩
 replace h := cdF hc112 h
 refine cw_skip (cw_seq (cw_seq (cw_regF (s_mv rfl rfl (s_neq rfl rfl rfl (Reg.nil (cw_cond rfl (fun hc113 => ?_) (fun hc113 => ?_))))))))
 ·replace h := cdT hc113 h
  obtain ⟨j114, h115, h⟩ := bnd h
  refine cw_keep [3, 11, 12, 17] rfl (cw_seqD 4 (ι := Bool) (fun x116 => [(10, Value.bool x116)]) (fun x116 => fun w117 => w106 = w117 ∧ x116 = j114) ?_ ?_)
  ·refine cw_regF (s_mv rfl rfl (s_mv rfl rfl (Reg.gsplit (t := 72) rfl (fun hg120 => ?_) (fun hg120 => ?_))))
   ·replace h115 := cdT hg120 h115
    refine Reg.take rfl rfl (s_mv rfl rfl (Reg.take rfl rfl (s_eql rfl rfl rfl (s_pkT rfl rfl rfl (s_mv rfl rfl (Reg.gsplit (t := 76) rfl (fun hg121 => ?_) (fun hg121 => ?_)))))))
    ·replace h115 := cdT hg121 h115
     refine Reg.take rfl rfl (s_fa rfl Tryd.underlying61 rfl Tryd.sizeOf3 rfl (Reg.take rfl rfl (s_ld rfl ((hW50.adv ((Adv.of_ext e57).trans (x96.trans (x99.trans ((hI98.eraseH 0).trans (Adv.of_ext e107)))))).cells.at 3 rfl) Tryd.isAgg3 rfl (Reg.take rfl rfl (s_mv rfl rfl (Reg.take rfl rfl (s_gtr rfl rfl rfl (s_pkT rfl rfl rfl (s_as rfl rfl (Reg.nil ?_))))))))))
     obtain rfl := Option.some.inj h115
     refine ⟨rfl, decide (known < y32.made), ⟨rfl, rfl⟩, sb1 rfl⟩
    replace h115 := cdF hg121 h115
    iterate 4 refine Reg.pass rfl rfl rfl rfl ?_
    refine s_pkF rfl rfl rfl (s_as rfl rfl (Reg.nil ?_))
    obtain rfl := Option.some.inj h115
    refine ⟨rfl, false, ⟨rfl, rfl⟩, sb1 rfl⟩
   replace h115 := cdF hg120 h115
   refine Reg.pass rfl rfl rfl rfl (Reg.pass rfl rfl rfl rfl (s_pkF rfl rfl rfl (s_mv rfl rfl ?_)))
   iterate 4 refine Reg.pass rfl rfl rfl rfl ?_
   refine s_pkF rfl rfl rfl (s_as rfl rfl (Reg.nil ?_))
   obtain rfl := Option.some.inj h115
   refine ⟨rfl, false, ⟨rfl, rfl⟩, sb1 rfl⟩
  rintro x116 _ ⟨rfl, rfl⟩
  refine cw_ret ?_
  obtain rfl := Option.some.inj h
  refine fin1 Tryd.results9 rfl ?_
  exact ⟨rfl, hI111.kp⟩
 replace h := cdF hc113 h
 refine cw_skip (cw_seq (cw_regF (s_mf rfl rfl ?_)))
 refine s_as rfl rfl (Reg.nil (cw_seq (cw_regF (s_as rfl rfl (Reg.nil ?_)))))
 obtain ⟨j122, h123, h⟩ := bnd h
 refine cw_keep [5, 12, 15, 16, 18, 1, 2, 3, 11, 13] rfl (cw_seqD 5 (ι := (List Report) × Value) (fun ⟨x124, v125⟩ => [(19, v125)]) (fun ⟨x124, v125⟩ => fun w126 => Hp w [] M [ownR [] ReportE 61 v125 x124] w126 ∧ Adv (mm [] M) (mm [ownR [] ReportE 61 v125 x124] M) w106 w126 ∧ (.inl x124) = j122) ?_ ?_)
 ·refine cw_block (cw_seq (cw_regF (s_mv rfl rfl (s_eql rfl rfl rfl (s_as rfl rfl (Reg.nil ?_))))))
  obtain ⟨j129, h130, h123⟩ := bnd h123
  refine cw_keep [5, 12, 15, 16, 18, 108, 1, 2, 3, 11, 13] rfl (cw_unitD 6 (ι := (List Report) × Value) (fun ⟨x131, v132⟩ => [(19, v132)]) (fun ⟨x131, v132⟩ => fun w133 => Hp w [] M [ownR [] ReportE 61 v132 x131] w133 ∧ Adv (mm [] M) (mm [ownR [] ReportE 61 v132 x131] M) w106 w133 ∧ (.inl x131) = j129) ?_ ?_)
  ·refine cw_cond rfl (fun hc136 => ?_) (fun hc136 => ?_)
   ·replace h130 := cdT hc136 h130
    refine cw_seq (cw_regF (s_ld rfl ((hC6.adv ((Adv.of_ext e10).trans (hA17.trans ((Adv.of_ext e47).trans ((Adv.of_ext e57).trans (x96.trans (x99.trans ((hI98.eraseH 0).trans (Adv.of_ext e107))))))))).cells.at 0 rfl) Tryd.isAgg22 rfl (s_mv rfl rfl ?_)))
    obtain ⟨⟨z137, z138⟩, hz139, h130⟩ := bnd h130
    refine s_call rfl Tryd.call33 rfl ((C_law03_find hI111.mlt (f_l_0.adv hI111.adv) r109 hz139).mono ?_)
    rintro _ w140 ⟨rfl, r142, r143, r144, r145, r146, r147, r148, r149, e141⟩
    refine ⟨_, rfl, ?_⟩
    have hI150 := hI111.ext e141
    refine s_mv rfl rfl (s_xt rfl rfl rfl (s_xt rfl rfl rfl (y_al hI150 Tryd.zeroValue61 rfl rfl ?_)))
    intro b151 w152 hI153 x154
    refine y_st 0 hI153 rfl rfl rfl rfl Tryd.sizeOf61 rfl rfl (on8 rfl rfl rfl rfl rfl rfl rfl rfl) ?_
    intro w155 hI156 x157
    have hC159 := hI156.freezeRow 0 rfl
    have hI158 := hI156.erase 0
    refine s_as rfl rfl (Reg.nil (cw_seq ?_))
    obtain ⟨j160, h161, h130⟩ := bnd h130
    refine cw_keep [12, 20, 21, 1, 2, 3, 11, 13, 18] rfl (cw_seqD 3 (ι := Bool) (fun x162 => [(150, Value.bool x162)]) (fun x162 => fun w163 => w155 = w163 ∧ x162 = j160) ?_ ?_)
    ·refine cw_regF (s_mv rfl rfl (s_not rfl rfl (s_mv rfl rfl (Reg.gsplit (t := 119) rfl (fun hg166 => ?_) (fun hg166 => ?_)))))
     ·replace h161 := cdT hg166 h161
      iterate 3 refine Reg.pass rfl rfl rfl rfl ?_
      refine s_pkT rfl rfl rfl (s_mv rfl rfl ?_)
      iterate 5 refine Reg.pass rfl rfl rfl rfl ?_
      refine s_pkT rfl rfl rfl (s_mv rfl rfl ?_)
      iterate 5 refine Reg.pass rfl rfl rfl rfl ?_
      refine s_pkT rfl rfl rfl (s_mv rfl rfl ?_)
      iterate 5 refine Reg.pass rfl rfl rfl rfl ?_
      refine s_pkT rfl rfl rfl (s_mv rfl rfl ?_)
      iterate 4 refine Reg.pass rfl rfl rfl rfl ?_
      refine s_pkT rfl rfl rfl (Reg.nil ?_)
      obtain rfl := Option.some.inj h161
      refine ⟨rfl, true, ⟨rfl, rfl⟩, sb7 rfl rfl rfl rfl rfl rfl rfl⟩
     replace h161 := cdF hg166 h161
     refine Reg.take rfl rfl (s_fa rfl Tryd.underlying61 rfl Tryd.sizeOf5 rfl (Reg.take rfl rfl (s_ld rfl (hC159.cells.at 5 rfl) Tryd.isAgg5 rfl (Reg.take rfl rfl (s_neq rfl rfl rfl (s_pkF rfl rfl rfl (s_mv rfl rfl (Reg.gsplit (t := 124) rfl (fun hg167 => ?_) (fun hg167 => ?_)))))))))
     ·replace h161 := cdT hg167 h161
      iterate 5 refine Reg.pass rfl rfl rfl rfl ?_
      refine s_pkT rfl rfl rfl (s_mv rfl rfl ?_)
      iterate 5 refine Reg.pass rfl rfl rfl rfl ?_
      refine s_pkT rfl rfl rfl (s_mv rfl rfl ?_)
      iterate 5 refine Reg.pass rfl rfl rfl rfl ?_
      refine s_pkT rfl rfl rfl (s_mv rfl rfl ?_)
      iterate 4 refine Reg.pass rfl rfl rfl rfl ?_
      refine s_pkT rfl rfl rfl (Reg.nil ?_)
      obtain rfl := Option.some.inj h161
      refine ⟨rfl, true, ⟨rfl, rfl⟩, sb7 rfl rfl rfl rfl rfl rfl rfl⟩
     replace h161 := cdF hg167 h161
     refine Reg.take rfl rfl (s_fa rfl Tryd.underlying61 rfl Tryd.sizeOf3 rfl (Reg.take rfl rfl (s_ld rfl (hC159.cells.at 7 rfl) Tryd.isAgg3 rfl (Reg.take rfl rfl (s_fa rfl Tryd.underlying61 rfl Tryd.sizeOf3 rfl (Reg.take rfl rfl (s_ld rfl ((hW50.adv ((Adv.of_ext e57).trans (x96.trans (x99.trans ((hI98.eraseH 0).trans ((Adv.of_ext e107).trans ((Adv.of_ext e141).trans (x154.trans (x157.trans (hI156.eraseH 0)))))))))).cells.at 0 rfl) Tryd.isAgg3 rfl (Reg.take rfl rfl (s_neq rfl rfl rfl (s_pkF rfl rfl rfl (s_mv rfl rfl ?_)))))))))))
     refine Reg.gsplit (t := 131) rfl (fun hg168 => ?_) (fun hg168 => ?_)
     ·replace h161 := cdT hg168 h161
      iterate 5 refine Reg.pass rfl rfl rfl rfl ?_
      refine s_pkT rfl rfl rfl (s_mv rfl rfl ?_)
      iterate 5 refine Reg.pass rfl rfl rfl rfl ?_
      refine s_pkT rfl rfl rfl (s_mv rfl rfl ?_)
      iterate 4 refine Reg.pass rfl rfl rfl rfl ?_
      refine s_pkT rfl rfl rfl (Reg.nil ?_)
      obtain rfl := Option.some.inj h161
      refine ⟨rfl, true, ⟨rfl, rfl⟩, sb7 rfl rfl rfl rfl rfl rfl rfl⟩
     replace h161 := cdF hg168 h161
     refine Reg.take rfl rfl (s_fa rfl Tryd.underlying61 rfl Tryd.sizeOf3 rfl (Reg.take rfl rfl (s_ld rfl (hC159.cells.at 1 rfl) Tryd.isAgg3 rfl (Reg.take rfl rfl (s_fa rfl Tryd.underlying61 rfl Tryd.sizeOf3 rfl (Reg.take rfl rfl (s_ld rfl ((hW50.adv ((Adv.of_ext e57).trans (x96.trans (x99.trans ((hI98.eraseH 0).trans ((Adv.of_ext e107).trans ((Adv.of_ext e141).trans (x154.trans (x157.trans (hI156.eraseH 0)))))))))).cells.at 1 rfl) Tryd.isAgg3 rfl (Reg.take rfl rfl (s_neq rfl rfl rfl (s_pkF rfl rfl rfl (s_mv rfl rfl ?_)))))))))))
     refine Reg.gsplit (t := 138) rfl (fun hg169 => ?_) (fun hg169 => ?_)
     ·replace h161 := cdT hg169 h161
      iterate 5 refine Reg.pass rfl rfl rfl rfl ?_
      refine s_pkT rfl rfl rfl (s_mv rfl rfl ?_)
      iterate 4 refine Reg.pass rfl rfl rfl rfl ?_
      refine s_pkT rfl rfl rfl (Reg.nil ?_)
      obtain rfl := Option.some.inj h161
      refine ⟨rfl, true, ⟨rfl, rfl⟩, sb7 rfl rfl rfl rfl rfl rfl rfl⟩
     replace h161 := cdF hg169 h161
     refine Reg.take rfl rfl (s_fa rfl Tryd.underlying61 rfl Tryd.sizeOf3 rfl (Reg.take rfl rfl (s_ld rfl (hC159.cells.at 2 rfl) Tryd.isAgg3 rfl (Reg.take rfl rfl (s_fa rfl Tryd.underlying61 rfl Tryd.sizeOf3 rfl (Reg.take rfl rfl (s_ld rfl ((hW50.adv ((Adv.of_ext e57).trans (x96.trans (x99.trans ((hI98.eraseH 0).trans ((Adv.of_ext e107).trans ((Adv.of_ext e141).trans (x154.trans (x157.trans (hI156.eraseH 0)))))))))).cells.at 2 rfl) Tryd.isAgg3 rfl (Reg.take rfl rfl (s_neq rfl rfl rfl (s_pkF rfl rfl rfl (s_mv rfl rfl ?_)))))))))))
     refine Reg.gsplit (t := 145) rfl (fun hg170 => ?_) (fun hg170 => ?_)
     ·replace h161 := cdT hg170 h161
      iterate 4 refine Reg.pass rfl rfl rfl rfl ?_
      refine s_pkT rfl rfl rfl (Reg.nil ?_)
      obtain rfl := Option.some.inj h161
      refine ⟨rfl, true, ⟨rfl, rfl⟩, sb7 rfl rfl rfl rfl rfl rfl rfl⟩
     replace h161 := cdF hg170 h161
     refine Reg.take rfl rfl (s_fa rfl Tryd.underlying61 rfl Tryd.sizeOf3 rfl (Reg.take rfl rfl (s_ld rfl (hC159.cells.at 3 rfl) Tryd.isAgg3 rfl (Reg.take rfl rfl (s_mv rfl rfl (Reg.take rfl rfl (s_gtr rfl rfl rfl (s_pkF rfl rfl rfl (Reg.nil ?_)))))))))
     obtain rfl := Option.some.inj h161
     refine ⟨rfl, decide (known < z137.made), ⟨rfl, rfl⟩, sb7 rfl rfl rfl rfl rfl rfl rfl⟩
    rintro x162 _ ⟨rfl, rfl⟩
    refine cw_cond rfl (fun hc171 => ?_) (fun hc171 => ?_)
    ·replace h130 := cdT hc171 h130
     refine cw_seq (cw_regF (s_as rfl rfl (Reg.nil (cw_ret ?_))))
     obtain rfl := Option.some.inj h130
     replace h123 := elimR h123
     obtain rfl := Option.some.inj h123
     replace h := elimR h
     obtain rfl := Option.some.inj h
     refine fin1 Tryd.results9 rfl ?_
     exact ⟨rfl, hI158.kp⟩
    replace h130 := cdF hc171 h130
    refine cw_skip (cw_regF (s_mv rfl rfl ?_))
    obtain ⟨z172, hz172, h130⟩ := bnd h130
    have kz172 : P.law03_AccountGone_in1 true l (Report.mk y32.id y32.source y32.account y32.made y32.about y32.kind y32.cents y32.of_) = some z172 := hz172
    refine s_callV rfl rfl rfl ?_
    refine CallsV.go Tryd.call34 rfl (C_law03_AccountGone_in1 (also := true) (l_c := l) (r_c := (Report.mk y32.id y32.source y32.account y32.made y32.about y32.kind y32.cents y32.of_)) hI158.mlt (f_l_0.adv hI158.adv) (hC6.adv ((Adv.of_ext e10).trans (hA17.trans ((Adv.of_ext e47).trans ((Adv.of_ext e57).trans (x96.trans (x99.trans ((hI98.eraseH 0).trans ((Adv.of_ext e107).trans ((Adv.of_ext e141).trans (x154.trans (x157.trans (hI156.eraseH 0))))))))))))) r38 r39 r40 r41 r42 r43 r44 r45 (hW50.adv ((Adv.of_ext e57).trans (x96.trans (x99.trans ((hI98.eraseH 0).trans ((Adv.of_ext e107).trans ((Adv.of_ext e141).trans (x154.trans (x157.trans (hI156.eraseH 0)))))))))) kz172) ?_
    rintro _ w173 ⟨v176, rfl, r175, e174⟩
    refine ⟨_, rfl, ?_⟩
    have hI177 := hI158.addOwn e174 r175
    refine s_as rfl rfl (Reg.nil ?_)
    obtain rfl := Option.some.inj h130
    refine ⟨rfl, (z172, v176), ⟨hI177, ((Adv.of_ext e141).trans (x154.trans (x157.trans ((hI156.eraseH 0).trans (hI158.addOwnA e174 r175))))), rfl⟩, sb6 rfl rfl rfl rfl rfl rfl⟩
   replace h130 := cdF hc136 h130
   obtain ⟨j178, h179, h130⟩ := bnd h130
   refine cw_keep [12, 1, 2, 3, 11, 13, 15, 16, 18] rfl (cw_seqD 1 (ι := Bool) (fun x180 => [(153, Value.bool x180)]) (fun x180 => fun w181 => w106 = w181 ∧ x180 = j178) ?_ ?_)
   ·refine cw_regF (s_mv rfl rfl (s_eql rfl rfl rfl (s_mv rfl rfl (Reg.gsplit (t := 156) rfl (fun hg184 => ?_) (fun hg184 => ?_)))))
    ·replace h179 := cdT hg184 h179
     refine Reg.take rfl rfl (s_mv rfl rfl (Reg.take rfl rfl (s_eql rfl rfl rfl (s_pkT rfl rfl rfl (s_mv rfl rfl (Reg.gsplit (t := 160) rfl (fun hg185 => ?_) (fun hg185 => ?_)))))))
     ·replace h179 := cdT hg185 h179
      iterate 4 refine Reg.pass rfl rfl rfl rfl ?_
      refine s_pkT rfl rfl rfl (s_as rfl rfl (Reg.nil ?_))
      obtain rfl := Option.some.inj h179
      refine ⟨rfl, true, ⟨rfl, rfl⟩, sb9 rfl rfl rfl rfl rfl rfl rfl rfl rfl⟩
     replace h179 := cdF hg185 h179
     refine Reg.take rfl rfl (s_fa rfl Tryd.underlying61 rfl Tryd.sizeOf3 rfl (Reg.take rfl rfl (s_ld rfl ((hW50.adv ((Adv.of_ext e57).trans (x96.trans (x99.trans ((hI98.eraseH 0).trans (Adv.of_ext e107)))))).cells.at 2 rfl) Tryd.isAgg3 rfl (Reg.take rfl rfl (s_mv rfl rfl (Reg.take rfl rfl (s_neq rfl rfl rfl (s_pkF rfl rfl rfl (s_as rfl rfl (Reg.nil ?_))))))))))
     obtain rfl := Option.some.inj h179
     refine ⟨rfl, !decide (y32.account = id), ⟨rfl, rfl⟩, sb9 rfl rfl rfl rfl rfl rfl rfl rfl rfl⟩
    replace h179 := cdF hg184 h179
    refine Reg.pass rfl rfl rfl rfl (Reg.pass rfl rfl rfl rfl (s_pkF rfl rfl rfl (s_mv rfl rfl (Reg.take rfl rfl (s_fa rfl Tryd.underlying61 rfl Tryd.sizeOf3 rfl (Reg.take rfl rfl (s_ld rfl ((hW50.adv ((Adv.of_ext e57).trans (x96.trans (x99.trans ((hI98.eraseH 0).trans (Adv.of_ext e107)))))).cells.at 2 rfl) Tryd.isAgg3 rfl (Reg.take rfl rfl (s_mv rfl rfl (Reg.take rfl rfl (s_neq rfl rfl rfl ?_)))))))))))
    refine s_pkF rfl rfl rfl (s_as rfl rfl (Reg.nil ?_))
    obtain rfl := Option.some.inj h179
    refine ⟨rfl, !decide (y32.account = id), ⟨rfl, rfl⟩, sb9 rfl rfl rfl rfl rfl rfl rfl rfl rfl⟩
   rintro x180 _ ⟨rfl, rfl⟩
   refine cw_cond rfl (fun hc186 => ?_) (fun hc186 => ?_)
   ·replace h130 := cdT hc186 h130
    refine cw_regF (s_mv rfl rfl ?_)
    obtain ⟨z187, hz187, h130⟩ := bnd h130
    have kz187 : P.law03_AccountGone_in1 false l (Report.mk y32.id y32.source y32.account y32.made y32.about y32.kind y32.cents y32.of_) = some z187 := hz187
    refine s_callV rfl rfl rfl ?_
    refine CallsV.go Tryd.call34 rfl (C_law03_AccountGone_in1 (also := false) (l_c := l) (r_c := (Report.mk y32.id y32.source y32.account y32.made y32.about y32.kind y32.cents y32.of_)) hI111.mlt (f_l_0.adv hI111.adv) (hC6.adv ((Adv.of_ext e10).trans (hA17.trans ((Adv.of_ext e47).trans ((Adv.of_ext e57).trans (x96.trans (x99.trans ((hI98.eraseH 0).trans (Adv.of_ext e107))))))))) r38 r39 r40 r41 r42 r43 r44 r45 (hW50.adv ((Adv.of_ext e57).trans (x96.trans (x99.trans ((hI98.eraseH 0).trans (Adv.of_ext e107)))))) kz187) ?_
    rintro _ w188 ⟨v191, rfl, r190, e189⟩
    refine ⟨_, rfl, ?_⟩
    have hI192 := hI111.addOwn e189 r190
    refine s_as rfl rfl (Reg.nil ?_)
    obtain rfl := Option.some.inj h130
    refine ⟨rfl, (z187, v191), ⟨hI192, (hI111.addOwnA e189 r190), rfl⟩, sb6 rfl rfl rfl rfl rfl rfl⟩
   replace h130 := cdF hc186 h130
   obtain ⟨j193, h194, h130⟩ := bnd h130
   refine cw_keep [11, 15, 16] rfl (cw_seqD 3 (ι := Bool) (fun x195 => [(10, Value.bool x195)]) (fun x195 => fun w196 => w106 = w196 ∧ x195 = j193) ?_ ?_)
   ·refine cw_regF (s_mv rfl rfl (s_mv rfl rfl (Reg.gsplit (t := 84) rfl (fun hg199 => ?_) (fun hg199 => ?_))))
    ·replace h194 := cdT hg199 h194
     refine Reg.take rfl rfl (s_mv rfl rfl (Reg.take rfl rfl (s_eql rfl rfl rfl (Reg.take rfl rfl (s_mv rfl rfl (Reg.gsplit (t := 87) rfl (fun hg200 => ?_) (fun hg200 => ?_)))))))
     ·replace h194 := cdT hg200 h194
      refine Reg.take rfl rfl (s_mv rfl rfl (Reg.take rfl rfl (s_eql rfl rfl rfl (Reg.take rfl rfl (s_pkT rfl rfl rfl (Reg.take rfl rfl (s_mv rfl rfl (Reg.gsplit (t := 91) rfl (fun hg201 => ?_) (fun hg201 => ?_)))))))))
      ·replace h194 := cdT hg201 h194
       iterate 3 refine Reg.pass rfl rfl rfl rfl ?_
       refine Reg.passU rfl rfl rfl (Reg.passU rfl rfl rfl (Reg.pass rfl rfl rfl rfl (Reg.take rfl rfl (s_pkT rfl rfl rfl (Reg.take rfl rfl (s_mv rfl rfl ?_))))))
       iterate 3 refine Reg.pass rfl rfl rfl rfl ?_
       refine Reg.passU rfl rfl rfl (Reg.passU rfl rfl rfl (Reg.pass rfl rfl rfl rfl (Reg.take rfl rfl (s_pkT rfl rfl rfl (s_pkT rfl rfl rfl (s_as rfl rfl (Reg.nil ?_)))))))
       obtain rfl := Option.some.inj h194
       refine ⟨rfl, true, ⟨rfl, rfl⟩, sb1 rfl⟩
      replace h194 := cdF hg201 h194
      refine Reg.take rfl rfl (s_mv rfl rfl (Reg.take rfl rfl (s_eql rfl rfl rfl (Reg.take rfl rfl (s_mv rfl rfl (Reg.gsplit (t := 94) rfl (fun hg202 => ?_) (fun hg202 => ?_)))))))
      ·replace h194 := cdT hg202 h194
       refine Reg.take rfl rfl (s_mv rfl rfl (Reg.take rfl rfl (s_eql rfl rfl rfl (Reg.take rfl rfl (s_pkT rfl rfl rfl (Reg.take rfl rfl (s_pkF rfl rfl rfl (Reg.take rfl rfl (s_mv rfl rfl (Reg.gsplit (t := 99) rfl (fun hg203 => ?_) (fun hg203 => ?_)))))))))))
       ·replace h194 := cdT hg203 h194
        iterate 3 refine Reg.pass rfl rfl rfl rfl ?_
        refine Reg.passU rfl rfl rfl (Reg.passU rfl rfl rfl (Reg.pass rfl rfl rfl rfl (Reg.take rfl rfl (s_pkT rfl rfl rfl (s_pkT rfl rfl rfl (s_as rfl rfl (Reg.nil ?_)))))))
        obtain rfl := Option.some.inj h194
        refine ⟨rfl, true, ⟨rfl, rfl⟩, sb1 rfl⟩
       replace h194 := cdF hg203 h194
       refine Reg.take rfl rfl (s_mv rfl rfl (Reg.take rfl rfl (s_eql rfl rfl rfl (Reg.take rfl rfl (s_mv rfl rfl (Reg.gsplit (t := 102) rfl (fun hg204 => ?_) (fun hg204 => ?_)))))))
       ·replace h194 := cdT hg204 h194
        refine Reg.take rfl rfl (s_mv rfl rfl (Reg.take rfl rfl (s_geq rfl rfl rfl (Reg.take rfl rfl (s_pkT rfl rfl rfl (Reg.take rfl rfl (s_pkF rfl rfl rfl (s_pkT rfl rfl rfl (s_as rfl rfl (Reg.nil ?_))))))))))
        obtain rfl := Option.some.inj h194
        refine ⟨rfl, decide (0 ≤ z103), ⟨rfl, rfl⟩, sb1 rfl⟩
       replace h194 := cdF hg204 h194
       refine Reg.pass rfl rfl rfl rfl (Reg.pass rfl rfl rfl rfl (Reg.take rfl rfl (s_pkF rfl rfl rfl (Reg.take rfl rfl (s_pkF rfl rfl rfl (s_pkT rfl rfl rfl (s_as rfl rfl (Reg.nil ?_))))))))
       obtain rfl := Option.some.inj h194
       refine ⟨rfl, false, ⟨rfl, rfl⟩, sb1 rfl⟩
      replace h194 := cdF hg202 h194
      refine Reg.pass rfl rfl rfl rfl (Reg.pass rfl rfl rfl rfl (Reg.take rfl rfl (s_pkF rfl rfl rfl (Reg.take rfl rfl (s_pkF rfl rfl rfl (Reg.take rfl rfl (s_mv rfl rfl (Reg.take rfl rfl (s_mv rfl rfl (Reg.take rfl rfl (s_eql rfl rfl rfl ?_)))))))))))
      refine Reg.take rfl rfl (s_mv rfl rfl (Reg.gsplit (t := 102) rfl (fun hg205 => ?_) (fun hg205 => ?_)))
      ·replace h194 := cdT hg205 h194
       refine Reg.take rfl rfl (s_mv rfl rfl (Reg.take rfl rfl (s_geq rfl rfl rfl (Reg.take rfl rfl (s_pkT rfl rfl rfl (Reg.take rfl rfl (s_pkF rfl rfl rfl (s_pkT rfl rfl rfl (s_as rfl rfl (Reg.nil ?_))))))))))
       obtain rfl := Option.some.inj h194
       refine ⟨rfl, decide (0 ≤ z103), ⟨rfl, rfl⟩, sb1 rfl⟩
      replace h194 := cdF hg205 h194
      refine Reg.pass rfl rfl rfl rfl (Reg.pass rfl rfl rfl rfl (Reg.take rfl rfl (s_pkF rfl rfl rfl (Reg.take rfl rfl (s_pkF rfl rfl rfl (s_pkT rfl rfl rfl (s_as rfl rfl (Reg.nil ?_))))))))
      obtain rfl := Option.some.inj h194
      refine ⟨rfl, false, ⟨rfl, rfl⟩, sb1 rfl⟩
     replace h194 := cdF hg200 h194
     refine Reg.pass rfl rfl rfl rfl (Reg.pass rfl rfl rfl rfl (Reg.take rfl rfl (s_pkF rfl rfl rfl (Reg.take rfl rfl (s_mv rfl rfl (Reg.take rfl rfl (s_mv rfl rfl (Reg.take rfl rfl (s_eql rfl rfl rfl (Reg.take rfl rfl (s_mv rfl rfl ?_)))))))))))
     refine Reg.gsplit (t := 94) rfl (fun hg206 => ?_) (fun hg206 => ?_)
     ·replace h194 := cdT hg206 h194
      refine Reg.take rfl rfl (s_mv rfl rfl (Reg.take rfl rfl (s_eql rfl rfl rfl (Reg.take rfl rfl (s_pkT rfl rfl rfl (Reg.take rfl rfl (s_pkF rfl rfl rfl (Reg.take rfl rfl (s_mv rfl rfl (Reg.gsplit (t := 99) rfl (fun hg207 => ?_) (fun hg207 => ?_)))))))))))
      ·replace h194 := cdT hg207 h194
       iterate 3 refine Reg.pass rfl rfl rfl rfl ?_
       refine Reg.passU rfl rfl rfl (Reg.passU rfl rfl rfl (Reg.pass rfl rfl rfl rfl (Reg.take rfl rfl (s_pkT rfl rfl rfl (s_pkT rfl rfl rfl (s_as rfl rfl (Reg.nil ?_)))))))
       obtain rfl := Option.some.inj h194
       refine ⟨rfl, true, ⟨rfl, rfl⟩, sb1 rfl⟩
      replace h194 := cdF hg207 h194
      refine Reg.take rfl rfl (s_mv rfl rfl (Reg.take rfl rfl (s_eql rfl rfl rfl (Reg.take rfl rfl (s_mv rfl rfl (Reg.gsplit (t := 102) rfl (fun hg208 => ?_) (fun hg208 => ?_)))))))
      ·replace h194 := cdT hg208 h194
       refine Reg.take rfl rfl (s_mv rfl rfl (Reg.take rfl rfl (s_geq rfl rfl rfl (Reg.take rfl rfl (s_pkT rfl rfl rfl (Reg.take rfl rfl (s_pkF rfl rfl rfl (s_pkT rfl rfl rfl (s_as rfl rfl (Reg.nil ?_))))))))))
       obtain rfl := Option.some.inj h194
       refine ⟨rfl, decide (0 ≤ z103), ⟨rfl, rfl⟩, sb1 rfl⟩
      replace h194 := cdF hg208 h194
      refine Reg.pass rfl rfl rfl rfl (Reg.pass rfl rfl rfl rfl (Reg.take rfl rfl (s_pkF rfl rfl rfl (Reg.take rfl rfl (s_pkF rfl rfl rfl (s_pkT rfl rfl rfl (s_as rfl rfl (Reg.nil ?_))))))))
      obtain rfl := Option.some.inj h194
      refine ⟨rfl, false, ⟨rfl, rfl⟩, sb1 rfl⟩
     replace h194 := cdF hg206 h194
     refine Reg.pass rfl rfl rfl rfl (Reg.pass rfl rfl rfl rfl (Reg.take rfl rfl (s_pkF rfl rfl rfl (Reg.take rfl rfl (s_pkF rfl rfl rfl (Reg.take rfl rfl (s_mv rfl rfl (Reg.take rfl rfl (s_mv rfl rfl (Reg.take rfl rfl (s_eql rfl rfl rfl ?_)))))))))))
     refine Reg.take rfl rfl (s_mv rfl rfl (Reg.gsplit (t := 102) rfl (fun hg209 => ?_) (fun hg209 => ?_)))
     ·replace h194 := cdT hg209 h194
      refine Reg.take rfl rfl (s_mv rfl rfl (Reg.take rfl rfl (s_geq rfl rfl rfl (Reg.take rfl rfl (s_pkT rfl rfl rfl (Reg.take rfl rfl (s_pkF rfl rfl rfl (s_pkT rfl rfl rfl (s_as rfl rfl (Reg.nil ?_))))))))))
      obtain rfl := Option.some.inj h194
      refine ⟨rfl, decide (0 ≤ z103), ⟨rfl, rfl⟩, sb1 rfl⟩
     replace h194 := cdF hg209 h194
     refine Reg.pass rfl rfl rfl rfl (Reg.pass rfl rfl rfl rfl (Reg.take rfl rfl (s_pkF rfl rfl rfl (Reg.take rfl rfl (s_pkF rfl rfl rfl (s_pkT rfl rfl rfl (s_as rfl rfl (Reg.nil ?_))))))))
     obtain rfl := Option.some.inj h194
     refine ⟨rfl, false, ⟨rfl, rfl⟩, sb1 rfl⟩
    replace h194 := cdF hg199 h194
    iterate 3 refine Reg.pass rfl rfl rfl rfl ?_
    refine Reg.passU rfl rfl rfl (Reg.passU rfl rfl rfl (Reg.pass rfl rfl rfl rfl (Reg.pass rfl rfl rfl rfl ?_)))
    iterate 6 refine Reg.passU rfl rfl rfl ?_
    refine Reg.pass rfl rfl rfl rfl (Reg.pass rfl rfl rfl rfl ?_)
    iterate 6 refine Reg.passU rfl rfl rfl ?_
    refine Reg.pass rfl rfl rfl rfl (s_pkF rfl rfl rfl (s_as rfl rfl (Reg.nil ?_)))
    obtain rfl := Option.some.inj h194
    refine ⟨rfl, false, ⟨rfl, rfl⟩, sb1 rfl⟩
   rintro x195 _ ⟨rfl, rfl⟩
   refine cw_ret ?_
   obtain rfl := Option.some.inj h130
   replace h123 := elimR h123
   obtain rfl := Option.some.inj h123
   replace h := elimR h
   obtain rfl := Option.some.inj h
   refine fin1 Tryd.results9 rfl ?_
   exact ⟨rfl, hI111.kp⟩
  rintro ⟨x131, v132⟩ w133 ⟨hI134, hA135, rfl⟩
  replace h123 := elimL h123
  obtain rfl := Option.some.inj h123
  refine ⟨rfl, (x131, v132), ⟨hI134, hA135, rfl⟩, sb6 rfl rfl rfl rfl rfl rfl⟩
 rintro ⟨x124, v125⟩ w126 ⟨hI127, hA128, rfl⟩
 replace h := elimL h
 refine cw_seq (cw_regF ?_)
 iterate 4 refine s_mv rfl rfl ?_
 have hf210 := hI127.freeze 0 rfl
 have hI211 := hI127.erase 0
 obtain ⟨⟨z212, z213⟩, hz214, h⟩ := bnd h
 refine s_call rfl Tryd.call20 rfl ((C_account_State hI211.mlt (hG.adv hI211.adv) hf210 f_id_0 f_day_0 f_known_0 hz214).mono ?_)
 rintro _ w215 ⟨v220, v225, v230, v235, v240, v245, rfl, r217, r218, r219, hf221, r222, r223, r224, hf226, r227, r228, r229, hf231, r232, r233, r234, hf236, r237, r238, r239, hf241, r242, r243, r244, hf246, r247, r248, r249, r250, e216⟩
 refine ⟨_, rfl, ?_⟩
 have hI251 := hI211.ext e216
 refine s_mv rfl rfl (s_xt rfl rfl rfl (s_xt rfl rfl rfl (y_al hI251 Tryd.zeroValue42 rfl rfl ?_)))
 intro b252 w253 hI254 x255
 refine y_st 0 hI254 rfl rfl rfl rfl Tryd.sizeOf42 rfl rfl (one1 rfl (one1 rfl (one1 rfl (one1 (RdS.oneC hf221) (one1 rfl (one1 rfl (one1 rfl (one1 (RdS.oneC hf226) (one1 rfl (one1 rfl (one1 rfl (one1 (RdS.oneC hf231) (one1 rfl (one1 rfl (one1 rfl (one1 (RdS.oneC hf236) (one1 rfl (one1 rfl (one1 rfl (one1 (RdS.oneC hf241) (one1 rfl (one1 rfl (one1 rfl (one1 (RdS.oneC hf246) (on3 rfl rfl rfl))))))))))))))))))))))))) ?_
 intro w256 hI257 x258
 have hC260 := hI257.freezeRow 0 rfl
 have hI259 := hI257.erase 0
 refine s_as rfl rfl (Reg.nil ?_)
 obtain ⟨j261, h262, h⟩ := bnd h
 refine cw_keep [11, 13, 22, 23] rfl (cw_seqD 4 (ι := Bool) (fun x263 => [(10, Value.bool x263)]) (fun x263 => fun w264 => Hp w [] M [] w264 ∧ Adv (mm [] M) (mm [] M) w256 w264 ∧ x263 = j261) ?_ ?_)
 ·refine cw_regF (s_mv rfl rfl (s_mv rfl rfl (Reg.gsplit (t := 177) rfl (fun hg267 => ?_) (fun hg267 => ?_))))
  ·replace h262 := cdT hg267 h262
   refine Reg.take rfl rfl (s_mv rfl rfl (Reg.take rfl rfl (s_eql rfl rfl rfl (s_pkT rfl rfl rfl (s_mv rfl rfl (Reg.gsplit (t := 181) rfl (fun hg268 => ?_) (fun hg268 => ?_)))))))
   ·replace h262 := cdT hg268 h262
    refine Reg.take rfl rfl (s_lda rfl (hC101.adv ((Adv.of_ext e107).trans (hA128.trans ((hI127.eraseH 0).trans ((Adv.of_ext e216).trans (x255.trans (x258.trans (hI257.eraseH 0)))))))).cells Tryd.isAgg42 rfl Tryd.sizeOf42 rfl (Reg.take rfl rfl (s_lda rfl hC260.cells Tryd.isAgg42 rfl Tryd.sizeOf42 rfl (Reg.take rfl rfl ?_))))
    obtain ⟨z269, hz270, h262⟩ := bnd h262
    refine s_call rfl Tryd.call24 rfl ((C_ref03_SameState (a := (State.mk (Told.mk z53.opened.known z53.opened.cents z53.opened.since z53.opened.by_) (Told.mk z53.limit.known z53.limit.cents z53.limit.since z53.limit.by_) (Told.mk z53.owed.known z53.owed.cents z53.owed.since z53.owed.by_) (Told.mk z53.late.known z53.late.cents z53.late.since z53.late.by_) (Told.mk z53.default.known z53.default.cents z53.default.since z53.default.by_) (Told.mk z53.closed.known z53.closed.cents z53.closed.since z53.closed.by_) (Span.mk z53.paid.lo z53.paid.hi) z53.is_)) (b := (State.mk (Told.mk z212.opened.known z212.opened.cents z212.opened.since z212.opened.by_) (Told.mk z212.limit.known z212.limit.cents z212.limit.since z212.limit.by_) (Told.mk z212.owed.known z212.owed.cents z212.owed.since z212.owed.by_) (Told.mk z212.late.known z212.late.cents z212.late.since z212.late.by_) (Told.mk z212.default.known z212.default.cents z212.default.since z212.default.by_) (Told.mk z212.closed.known z212.closed.cents z212.closed.since z212.closed.by_) (Span.mk z212.paid.lo z212.paid.hi) z212.is_)) hI259.mlt r58 r59 r60 (hf62.adv (x96.trans (x99.trans ((hI98.eraseH 0).trans ((Adv.of_ext e107).trans (hA128.trans ((hI127.eraseH 0).trans ((Adv.of_ext e216).trans (x255.trans (x258.trans (hI257.eraseH 0))))))))))) r63 r64 r65 (hf67.adv (x96.trans (x99.trans ((hI98.eraseH 0).trans ((Adv.of_ext e107).trans (hA128.trans ((hI127.eraseH 0).trans ((Adv.of_ext e216).trans (x255.trans (x258.trans (hI257.eraseH 0))))))))))) r68 r69 r70 (hf72.adv (x96.trans (x99.trans ((hI98.eraseH 0).trans ((Adv.of_ext e107).trans (hA128.trans ((hI127.eraseH 0).trans ((Adv.of_ext e216).trans (x255.trans (x258.trans (hI257.eraseH 0))))))))))) r73 r74 r75 (hf77.adv (x96.trans (x99.trans ((hI98.eraseH 0).trans ((Adv.of_ext e107).trans (hA128.trans ((hI127.eraseH 0).trans ((Adv.of_ext e216).trans (x255.trans (x258.trans (hI257.eraseH 0))))))))))) r78 r79 r80 (hf82.adv (x96.trans (x99.trans ((hI98.eraseH 0).trans ((Adv.of_ext e107).trans (hA128.trans ((hI127.eraseH 0).trans ((Adv.of_ext e216).trans (x255.trans (x258.trans (hI257.eraseH 0))))))))))) r83 r84 r85 (hf87.adv (x96.trans (x99.trans ((hI98.eraseH 0).trans ((Adv.of_ext e107).trans (hA128.trans ((hI127.eraseH 0).trans ((Adv.of_ext e216).trans (x255.trans (x258.trans (hI257.eraseH 0))))))))))) r88 r89 r90 r217 r218 r219 (hf221.adv (x255.trans (x258.trans (hI257.eraseH 0)))) r222 r223 r224 (hf226.adv (x255.trans (x258.trans (hI257.eraseH 0)))) r227 r228 r229 (hf231.adv (x255.trans (x258.trans (hI257.eraseH 0)))) r232 r233 r234 (hf236.adv (x255.trans (x258.trans (hI257.eraseH 0)))) r237 r238 r239 (hf241.adv (x255.trans (x258.trans (hI257.eraseH 0)))) r242 r243 r244 (hf246.adv (x255.trans (x258.trans (hI257.eraseH 0)))) r247 r248 r249 hz270).mono ?_)
    rintro _ w271 ⟨rfl, e272⟩
    refine ⟨_, rfl, ?_⟩
    have hI273 := hI259.ext e272
    refine s_pkT rfl rfl rfl (s_as rfl rfl (Reg.nil ?_))
    obtain rfl := Option.some.inj h262
    refine ⟨rfl, z269, ⟨hI273, (Adv.of_ext e272), rfl⟩, sb1 rfl⟩
   replace h262 := cdF hg268 h262
   iterate 3 refine Reg.pass rfl rfl rfl rfl ?_
   refine s_pkF rfl rfl rfl (s_as rfl rfl (Reg.nil ?_))
   obtain rfl := Option.some.inj h262
   refine ⟨rfl, false, ⟨hI259, (Adv.refl _ _), rfl⟩, sb1 rfl⟩
  replace h262 := cdF hg267 h262
  refine Reg.pass rfl rfl rfl rfl (Reg.pass rfl rfl rfl rfl (s_pkF rfl rfl rfl (s_mv rfl rfl ?_)))
  iterate 3 refine Reg.pass rfl rfl rfl rfl ?_
  refine s_pkF rfl rfl rfl (s_as rfl rfl (Reg.nil ?_))
  obtain rfl := Option.some.inj h262
  refine ⟨rfl, false, ⟨hI259, (Adv.refl _ _), rfl⟩, sb1 rfl⟩
 rintro x263 w264 ⟨hI265, hA266, rfl⟩
 refine cw_ret ?_
 obtain rfl := Option.some.inj h
 refine fin1 Tryd.results9 rfl ?_
 exact ⟨rfl, hI265.kp⟩
end Go.Proofs.YtepjkmoipjeghaaDoor
namespace Go.Proofs.YtepjkmoipjeghaaDoor
open Go Go.Sx
namespace S
/-- What is left without a report, and, if told so, its withdrawals. -/
def wo (a : Bool) (r x : Report) : Bool := !decide (x.id = r.id) && (!a || (!decide (x.kind = 9) || !decide (x.of_ = r.id)))
theorem r_without {l : List Report} (hl : l.length ≤ 1000000) {a : Bool} {r : Report} {Q : List Report → Prop} (h : Q (l.filter (wo a r))) : Ret (P.law03_AccountGone_in1 a l r) Q := by
  unfold P.law03_AccountGone_in1
  refine Ret.bind (Ret.loop (fun t : List Report × Int => ∃ n : Nat, t.2 = n ∧ n ≤ l.length ∧ t.1 = (l.take n).filter (wo a r)) (fun t => l.length - t.2.toNat) ⟨0, rfl, Nat.zero_le _, rfl⟩ ?_)
  rintro ⟨_, _⟩ ⟨n, rfl, hn, rfl⟩
  dsimp only
  refine Ret.cond (fun h1 => ?_) fun h1 => ?_
  · have hlt : n < l.length := by have := of_decide_eq_true h1; omega
    have hfl : ((l.take n).filter (wo a r)).length ≤ l.length := by
      refine Nat.le_trans (List.length_filter_le _ _) ?_
      rw [List.length_take]; omega
    have next : ∀ (p' : List Report), p' = (l.take (n + 1)).filter (wo a r) → ∀ Q : List Report → Prop, Ret (Option.bind (chk .i64 ((n : Int) + 1)) fun n193 => some (Sum.inl (p', n193) : (List Report × Int) ⊕ List Report)) (Nxt (fun s' : List Report × Int => (∃ n : Nat, s'.2 = n ∧ n ≤ l.length ∧ s'.1 = (l.take n).filter (wo a r)) ∧ l.length - s'.2.toNat < l.length - (n : Int).toNat) Q) := fun p' hp' Q => Ret.bind (Ret.chk (by omega) (Ret.next ⟨⟨n + 1, by dsimp only; omega, by omega, hp'⟩, by dsimp only; omega⟩))
    have stay : wo a r l[n] = false → (l.take n).filter (wo a r) = (l.take (n + 1)).filter (wo a r) := fun h => by
      rw [take_snoc hlt, List.filter_append]; simp [h]
    have put : wo a r l[n] = true → (l.take n).filter (wo a r) ++ [l[n]] = (l.take (n + 1)).filter (wo a r) := fun h => by
      rw [take_snoc hlt, List.filter_append]; simp [h]
    refine Ret.bind (Ret.bind (Ret.ixo (List.getElem?_eq_getElem hlt) (Ret.bind ?_)))
    have yes : wo a r l[n] = true → ∀ Q' : Bool → Prop, Q' true → Q' (wo a r l[n]) := fun e Q' hq => by rw [e]; exact hq
    have app : wo a r l[n] = true → ∀ Q, Ret (Option.bind (_root_.cond true (Option.bind (appo 64 ((l.take n).filter (wo a r)) ([(Report.mk l[n].id l[n].source l[n].account l[n].made l[n].about l[n].kind l[n].cents l[n].of_)] : List Report)) fun l38 => some l38) (some ((l.take n).filter (wo a r)))) fun x43 => some x43) fun b => Ret (Option.bind (chk .i64 ((n : Int) + 1)) fun n193 => some (Sum.inl (b, n193) : (List Report × Int) ⊕ List Report)) (Nxt (fun s' : List Report × Int => (∃ n : Nat, s'.2 = n ∧ n ≤ l.length ∧ s'.1 = (l.take n).filter (wo a r)) ∧ l.length - s'.2.toNat < l.length - (n : Int).toNat) Q) := fun e Q => Ret.bind (Ret.condT rfl (Ret.bind (Ret.appo (by simp at hfl ⊢; omega) (by simp at hfl ⊢; omega) (Ret.ok (Ret.ok (next _ (by rw [eta]; exact put e) _))))))
    have non : wo a r l[n] = false → ∀ Q, Ret (Option.bind (_root_.cond false (Option.bind (appo 64 ((l.take n).filter (wo a r)) ([(Report.mk l[n].id l[n].source l[n].account l[n].made l[n].about l[n].kind l[n].cents l[n].of_)] : List Report)) fun l38 => some l38) (some ((l.take n).filter (wo a r)))) fun x43 => some x43) fun b => Ret (Option.bind (chk .i64 ((n : Int) + 1)) fun n193 => some (Sum.inl (b, n193) : (List Report × Int) ⊕ List Report)) (Nxt (fun s' : List Report × Int => (∃ n : Nat, s'.2 = n ∧ n ≤ l.length ∧ s'.1 = (l.take n).filter (wo a r)) ∧ l.length - s'.2.toNat < l.length - (n : Int).toNat) Q) := fun e Q => Ret.bind (Ret.condF rfl (Ret.ok (Ret.ok (next _ (stay e) _))))
    refine Ret.cond (fun e1 => ?_) fun e1 => Ret.ok (non (by unfold wo; rw [e1, Bool.false_and]) _)
    refine Ret.cond (fun e2 => Ret.ok (app (by unfold wo; rw [e1, e2]; rfl) _)) fun e2 => ?_
    refine Ret.cond (fun e3 => Ret.ok (app (by unfold wo; rw [e1, e2, e3]; rfl) _)) fun e3 => Ret.ok ?_
    cases e4 : !decide (l[n].of_ = r.id) with
    | true => exact app (by unfold wo; rw [e1, e2, e3, e4]; rfl) _
    | false => exact non (by unfold wo; rw [e1, e2, e3, e4]; rfl) _
  · have hge : n = l.length := by have := of_decide_eq_false h1; omega
    subst hge
    rw [List.take_length]
    exact Ret.done (Ret.ok h)
theorem wo_f {r x : Report} : wo false r x = true ↔ x.id ≠ r.id := by simp [wo]
theorem wo_t {r x : Report} : wo true r x = true ↔ x.id ≠ r.id ∧ (x.kind ≠ 9 ∨ x.of_ ≠ r.id) := by simp [wo]
theorem kw_wo {l K : List Report} {known : Int} (h : Kw l known K) (a : Bool) (r : Report) : Kw (l.filter (wo a r)) known (K.filter (wo a r)) := by
  refine ⟨fun x => ?_, fun x hx => h.ok.v x (List.mem_filter.1 hx).1, (List.filter_sublist.map _).nodup h.ok.nd, Nat.le_trans (List.length_filter_le _ _) h.ok.len⟩
  rw [List.mem_filter, List.mem_filter, h.mem]
  exact ⟨fun h => ⟨⟨h.1.1, h.2⟩, h.1.2⟩, fun h => ⟨⟨h.1.1, h.2⟩, h.1.2⟩⟩
section
variable {K : List Report} (hK : Ok K) {r : Report} (hr : r ∈ K)
include hK hr
theorem not_f {x : Report} (hx : x ∈ K) (h : ¬ wo false r x = true) : x = r := by
  rw [wo_f] at h
  exact hK.one hx hr (Decidable.not_not.1 h)
theorem ok_wo (a : Bool) : Ok (K.filter (wo a r)) := ⟨fun x hx => hK.v x (List.mem_filter.1 hx).1, (List.filter_sublist.map _).nodup hK.nd, Nat.le_trans (List.length_filter_le _ _) hK.len⟩
theorem perm_acc {id day : Int} (ha : r.account ≠ id) : ((T K).filter (ofA id day)).Perm ((T (K.filter (wo false r))).filter (ofA id day)) := by
  refine T_sub hK (ok_wo hK hr false) (q := fun x => wo false r x = true) (fun x => List.mem_filter) (fun o ho h7 _ hA => ?_) fun o ho h7 qo ⟨a, b, hA⟩ => ?_
  · rw [wo_f]
    intro e
    obtain rfl := hK.one ho hr e
    have h2 := (fix_vals hK ho).2.1
    unfold ofA at hA
    rw [h2] at hA
    simp [ha] at hA
  · have hoa : o.account = id := by
      unfold ofA at hA
      simp at hA
      exact hA.1
    refine ⟨fun x hx hq hw => ?_, fun c hc _ _ hca x hx hq hw => ?_, fun _ x hq hb => ?_⟩
    · obtain rfl := not_f hK hr hx hq
      obtain ⟨_, _, h2, t, ht, _⟩ := hw
      obtain rfl := hK.one ht.1 ho (by rw [ht.2.1, h2])
      exact ha (by rw [← ht.2.2.2]; exact hoa)
    · obtain rfl := not_f hK hr hx hq
      obtain ⟨_, _, h2, t, ht, _⟩ := hw
      obtain rfl := hK.one ht.1 hc (by rw [ht.2.1, h2])
      exact ha (by rw [← ht.2.2.2, ← hca.2.2.2]; exact hoa)
    · have hl := best_lt hK o
      rw [hb] at hl
      obtain rfl := not_f hK hr hl.1 hq
      exact ha (by rw [← hl.2.1.2.1.2.2.2]; exact hoa)
theorem perm_stray {A : Report → Bool} (h8 : 8 ≤ r.kind) (hn : ∀ i, ¬ Wd K i r) (hb : ∀ o ∈ K, o.kind ≤ 7 → WdR K o.id none → best K o ≠ some r) : ((T K).filter A).Perm ((T (K.filter (wo false r))).filter A) := by
  refine T_sub hK (ok_wo hK hr false) (q := fun x => wo false r x = true) (fun x => List.mem_filter) (fun o ho h7 _ hA => ?_) fun o ho h7 qo _ => ?_
  · rw [wo_f]
    intro e
    obtain rfl := hK.one ho hr e
    omega
  · refine ⟨fun x hx hq hw => ?_, fun c hc _ _ hca x hx hq hw => ?_, fun hw x hq hbb => ?_⟩
    · obtain rfl := not_f hK hr hx hq; exact hn _ hw
    · obtain rfl := not_f hK hr hx hq; exact hn _ hw
    · have hl := best_lt hK o
      rw [hbb] at hl
      obtain rfl := not_f hK hr hl.1 hq
      exact hb o ho h7 hw hbb
theorem perm_gone {A : Report → Bool} {w : Int} (hw : WdR K r.id (some w)) : ((T K).filter A).Perm ((T (K.filter (wo true r))).filter A) := by
  have hno : ¬ WdR K r.id none := fun h => by
    have := Least.uniq hw h
    cases this
  have h9 : r.kind ≠ 9 := fun h => hno (wd_nine hK hr h)
  have nq : ∀ x ∈ K, ¬ wo true r x = true → x = r ∨ x.kind = 9 ∧ x.of_ = r.id := fun x hx h => by
    rw [wo_t] at h
    by_cases e : x.id = r.id
    · exact .inl (hK.one hx hr e)
    · refine .inr ?_
      by_cases e9 : x.kind = 9
      · by_cases eo : x.of_ = r.id
        · exact ⟨e9, eo⟩
        · exact absurd ⟨e, .inr eo⟩ h
      · exact absurd ⟨e, .inl e9⟩ h
  refine T_sub hK (ok_wo hK hr true) (q := fun x => wo true r x = true) (fun x => List.mem_filter) (fun o ho h7 hwo hA => ?_) fun o ho h7 qo _ => ?_
  · rw [wo_t]
    refine ⟨fun e => ?_, .inl (by omega)⟩
    obtain rfl := hK.one ho hr e
    exact hno hwo
  · rw [wo_t] at qo
    refine ⟨fun x hx hq hd => ?_, fun c hc hqc _ hca x hx hq hd => ?_, fun hwo x hq hbb => ?_⟩
    · rcases nq x hx hq with rfl | ⟨_, e⟩
      · exact h9 hd.2.1
      · exact qo.1 (by rw [← hd.2.2.1, e])
    · rw [wo_t] at hqc
      rcases nq x hx hq with rfl | ⟨_, e⟩
      · exact h9 hd.2.1
      · exact hqc.1 (by rw [← hd.2.2.1, e])
    · have hl := best_lt hK o
      rw [hbb] at hl
      rcases nq x hl.1 hq with rfl | ⟨e, _⟩
      · exact hno hl.2.1.2.2.2
      · have := hl.2.1.1; omega
end
theorem p_AccountGone {l : List Report} (hin : ∀ r ∈ l, InR r) {id day known : Int} (_ : InK .i64 id) (_ : InK .i64 day) (_ : InK .i64 known) {which : Int} (hw : InK .u8 which) : P.law03_AccountGone l id day known which = some true := by
  rw [InK.u8] at hw
  apply Ret.yes
  unfold P.law03_AccountGone
  refine Ret.bind (Ret.val alive_is (Ret.bind (Ret.bind (r_ready hin (by simp) (Ret.condT rfl (Ret.ok (Ret.condT rfl (Ret.ok rfl)))) fun c hid hd => Ret.condF rfl (Ret.cond (fun _ => Ret.ok (Ret.condT rfl (Ret.ok rfl))) fun h0 => Ret.ok (Ret.condF rfl ?_))))))
  obtain ⟨hl, hV, hC⟩ := chk0 c
  have h0 := of_decide_eq_false h0
  have hpos : (0 : Int) < l.length := by omega
  refine Ret.bind (Ret.chk (by omega) (Ret.bind (Ret.remO (by omega) hpos (Ret.bind (Ret.ixoI (Int.emod_nonneg _ (by omega)) (Int.emod_lt_of_pos _ hpos) fun r hr => ?_)))))
  have hrl := List.mem_of_getElem? hr
  refine Ret.bind (r_State1 hin c (in3 hid hd) fun F hF => Ret.bind (r_Fate1 hin c (hd known (by simp)) fun K hK => ?_))
  have fo := hF.fo
  by_cases hrm : r.made ≤ known
  · have hrK : r ∈ K := (hK.mem r).2 ⟨hrl, hrm⟩
    have state : ∀ a : Bool, ((T K).filter (ofA id day)).Perm ((T (K.filter (wo a r))).filter (ofA id day)) → ∀ (Q : State × Int → Prop), Q (stF (F.filter (ofA id day)), 0) → Ret (P.account_State (l.filter (wo a r)) id day known) Q := fun a hp Q hQ => by
      have c' : chkE (l.filter (wo a r)) = 0 := chk_mem c (Nat.le_trans (List.length_filter_le _ _) hl) fun x hx => (List.mem_filter.1 hx).1
      refine r_State1 (fun x hx => hin x (List.mem_filter.1 hx).1) c' (in3 hid hd) fun F' hF' => ?_
      rw [← fc_filt hF hF' hK (kw_wo hK a r) hp]; exact hQ
    have few := few_st (fo.filter (ofA id day))
    have hft := ft_is hK.ok hrK
    generalize ftOf K r.id = z at hft ⊢
    dsimp only
    cases hft with
    | works9 o h9 h =>
      refine Ret.condF rfl (Ret.condF rfl (Ret.bind (Ret.bind (Ret.condF rfl (Ret.bind (Ret.condF rfl (Ret.ok ?_)))))))
      by_cases ha : r.account = id
      · refine Ret.condF (by simp [ha]) (Ret.bind (Ret.condT rfl (Ret.condT rfl (Ret.condT rfl (Ret.ok (Ret.ok (Ret.elimR (Ret.ok (Ret.elimR (Ret.ok rfl))))))))))
      · refine Ret.condT (by simp [ha]) (Ret.bind (r_without (by omega) (Ret.ok (Ret.elimL (Ret.ok (Ret.elimL (Ret.bind (state false (perm_acc hK.ok hrK ha) _ ?_))))))))
        exact Ret.bind (Ret.condT rfl (Ret.condT rfl (Ret.bind (Ret.val (r_sameS few) (Ret.ok (Ret.ok rfl))))))
    | stray9 h9 h =>
      refine Ret.condF rfl (Ret.condF rfl (Ret.bind (Ret.bind (Ret.condF rfl (Ret.bind (Ret.condT rfl (Ret.condT rfl (Ret.ok ?_))))))))
      refine Ret.condT rfl (Ret.bind (r_without (by omega) (Ret.ok (Ret.elimL (Ret.ok (Ret.elimL (Ret.bind (state false (perm_stray hK.ok hrK (by omega) (fun i hw => h hw.2.2.2) (fun o _ _ _ hb => ?_)) _ ?_))))))))
      · have hl := best_lt hK.ok o
        rw [hb] at hl
        have := hl.2.1.1; omega
      · exact Ret.bind (Ret.condT rfl (Ret.condT rfl (Ret.bind (Ret.val (r_sameS few) (Ret.ok (Ret.ok rfl))))))
    | gone w h =>
      refine Ret.condF rfl (Ret.condF rfl (Ret.bind (Ret.bind (Ret.condT rfl ?_))))
      have hg := perm_gone hK.ok hrK (A := ofA id day) h
      obtain ⟨x, hxK, hx, rfl, _⟩ := h
      have hxl := (hK.mem x).1 hxK
      obtain ⟨_, e1, e2, t, ht, _⟩ := hx
      obtain rfl := hK.ok.one ht.1 hrK (by rw [ht.2.1, e2])
      refine Ret.bind (r_find (by omega) (fun y hy e => ?_) fun hno => absurd rfl (hno x hxl.1))
      obtain rfl := hC y hy x hxl.1 e
      refine Ret.bind (Ret.condF rfl (Ret.condF (by simp [e1]) (Ret.condF (by simp [e2]) (Ret.condF (by simp [ht.2.2.1]) (Ret.condF (by simp [ht.2.2.2]) (Ret.ok ?_))))))
      refine Ret.condF (decide_eq_false (by dsimp only; omega)) (Ret.bind (r_without (by omega) (Ret.ok (Ret.elimL (Ret.ok (Ret.elimL (Ret.bind (state true hg _ ?_))))))))
      exact Ret.bind (Ret.condT rfl (Ret.condT rfl (Ret.bind (Ret.val (r_sameS few) (Ret.ok (Ret.ok rfl))))))
    | works8 o h8 hw h =>
      refine Ret.condF rfl (Ret.condF rfl (Ret.bind (Ret.bind (Ret.condF rfl (Ret.bind (Ret.condF rfl (Ret.ok ?_)))))))
      by_cases ha : r.account = id
      · refine Ret.condF (by simp [ha]) (Ret.bind (Ret.condT rfl (Ret.condT rfl (Ret.condT rfl (Ret.ok (Ret.ok (Ret.elimR (Ret.ok (Ret.elimR (Ret.ok rfl))))))))))
      · refine Ret.condT (by simp [ha]) (Ret.bind (r_without (by omega) (Ret.ok (Ret.elimL (Ret.ok (Ret.elimL (Ret.bind (state false (perm_acc hK.ok hrK ha) _ ?_))))))))
        exact Ret.bind (Ret.condT rfl (Ret.condT rfl (Ret.bind (Ret.val (r_sameS few) (Ret.ok (Ret.ok rfl))))))
    | stray8 h8 hw h =>
      refine Ret.condF rfl (Ret.condF rfl (Ret.bind (Ret.bind (Ret.condF rfl (Ret.bind (Ret.condT rfl (Ret.condT rfl (Ret.ok ?_))))))))
      refine Ret.condT rfl (Ret.bind (r_without (by omega) (Ret.ok (Ret.elimL (Ret.ok (Ret.elimL (Ret.bind (state false (perm_stray hK.ok hrK (by omega) (fun i hw => by have := hw.2.1; omega) (fun o ho h7 hwo hb => ?_)) _ ?_))))))))
      · have hl := best_lt hK.ok o
        rw [hb] at hl
        exact h ⟨o, ho, hl.2.1.2.1.2.1, h7, hwo, hb⟩
      · exact Ret.bind (Ret.condT rfl (Ret.condT rfl (Ret.bind (Ret.val (r_sameS few) (Ret.ok (Ret.ok rfl))))))
    | stands h7 hw h =>
      refine Ret.condF rfl (Ret.condF rfl (Ret.bind (Ret.bind (Ret.condF rfl (Ret.bind (Ret.condF rfl (Ret.ok ?_)))))))
      by_cases ha : r.account = id
      · refine Ret.condF (by simp [ha]) (Ret.bind (Ret.condT rfl (Ret.condF rfl (Ret.condT rfl (Ret.condT rfl (Ret.ok (Ret.ok (Ret.elimR (Ret.ok (Ret.elimR (Ret.ok rfl)))))))))))
      · refine Ret.condT (by simp [ha]) (Ret.bind (r_without (by omega) (Ret.ok (Ret.elimL (Ret.ok (Ret.elimL (Ret.bind (state false (perm_acc hK.ok hrK ha) _ ?_))))))))
        exact Ret.bind (Ret.condT rfl (Ret.condT rfl (Ret.bind (Ret.val (r_sameS few) (Ret.ok (Ret.ok rfl))))))
    | fixed x h7 hw h =>
      have hl := best_lt hK.ok r
      rw [h] at hl
      have hx := (hK.ok.v x hl.1).2.1.1
      refine Ret.condF rfl (Ret.condF rfl (Ret.bind (Ret.bind (Ret.condF rfl (Ret.bind (Ret.condF rfl (Ret.ok ?_)))))))
      by_cases ha : r.account = id
      · refine Ret.condF (by simp [ha]) (Ret.bind (Ret.condT rfl (Ret.condF rfl (Ret.condF rfl (Ret.condT rfl (Ret.ok (Ret.ok (Ret.elimR (Ret.ok (Ret.elimR (Ret.ok (decide_eq_true hx))))))))))))
      · refine Ret.condT (by simp [ha]) (Ret.bind (r_without (by omega) (Ret.ok (Ret.elimL (Ret.ok (Ret.elimL (Ret.bind (state false (perm_acc hK.ok hrK ha) _ ?_))))))))
        exact Ret.bind (Ret.condT rfl (Ret.condT rfl (Ret.bind (Ret.val (r_sameS few) (Ret.ok (Ret.ok rfl))))))
  · rw [ft_six (fun x hx e => hrm (by
      obtain ⟨hx1, hx2⟩ := (hK.mem x).1 hx
      rw [← hC x hx1 r hrl e]; exact hx2)) hK.ok]
    dsimp only
    exact Ret.condF rfl (Ret.condT rfl (Ret.bind (Ret.condT rfl (Ret.condT rfl (Ret.ok (Ret.ok (decide_eq_true (by omega))))))))
end S
end Go.Proofs.YtepjkmoipjeghaaDoor
