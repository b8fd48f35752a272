/-
  Part AccountClashes 7 of the texts that the statement's proof stands on: what memory holds, how code is walked, what the functions reckon. In the order in which they build.
-/
import Derived.Test.YtepjkmoipjeghaaDoorProg
import Derived.Test.YtepjkmoipjeghaaDoorAqAccountClashes6
set_option linter.unusedVariables false
set_option linter.unusedSectionVars false
set_option maxRecDepth 20000
set_option maxHeartbeats 4000000
namespace Go.Proofs.YtepjkmoipjeghaaDoor
open Go Go.Sx Go.RowKit
noncomputable def P.account_Clashes_in1 (r : Report) (l_c : (List Report)) : Option Bool :=
  Option.bind (ixo l_c 0) fun y7 => some (decide (y7.about < r.about))
theorem C_account_Clashes_in1 {M : List Nat} {w : World} (hM : MLt M w) {r : Report} (f_r_0 : InK .i64 r.id) (f_r_1 : InK .i64 r.source) (f_r_2 : InK .i64 r.account) (f_r_3 : InK .i64 r.made) (f_r_4 : InK .i64 r.about) (f_r_5 : InK .u8 r.kind) (f_r_6 : InK .i64 r.cents) (f_r_7 : InK .i64 r.of_) {l_c : (List Report)} {v_l_c_0 : Value} (f_l_c_0 : RdS ReportE M w v_l_c_0 l_c) {b_l_c : Nat} (c_l_c : RdC M w b_l_c 0 [v_l_c_0]) {r0 : Bool} (h : P.account_Clashes_in1 r l_c = some r0) :
  Calls Tryd.prog 59 (List.toArray [Value.agg (List.toArray (vR r)), vp b_l_c 0]) w fun e w' => e = .returned (Value.bool r0) ∧ Ext w w' := by
 have hI := Hp.start (Mu := []) hM
 refine calls_cw Tryd.func59 rfl Tryd.ntmps59 rfl ?_
 refine cw_seq (cw_regF (y_box hI rfl rfl rfl ?_))
 intro b1 w2 hI3 x4
 have hC6 := hI3.freezeRow 0 rfl
 have hI5 := hI3.erase 0
 refine s_as rfl rfl (Reg.nil (cw_seq ?_))
 refine cw_regT fol (by kernel_rfl) ?_
 refine s_fa rfl Tryd.underlying61 rfl Tryd.sizeOf3 rfl (s_ld rfl (hC6.cells.at 4 rfl) Tryd.isAgg3 rfl (s_ld rfl ((c_l_c.adv hI5.adv).cells.at 0 rfl) Tryd.isAgg22 rfl ?_))
 obtain ⟨y7, hy7, h⟩ := bnd h
 refine p_ia rfl rfl (f_l_c_0.adv hI5.adv) hy7 Tryd.underlying22 Tryd.sizeOf61 rfl ?_
 intro b8 o9 cs10 hR11 hC12
 obtain ⟨rfl, r13, r14, r15, r16, r17, r18, r19, r20⟩ := ReportE_R.1 hR11
 refine s_fa rfl Tryd.underlying61 rfl Tryd.sizeOf3 rfl (s_ld rfl (hC12.cells.at 4 rfl) Tryd.isAgg3 rfl (s_gtr rfl rfl rfl (s_as rfl rfl (Reg.nilq (fun w21 e22 => ?_)))))
 have hI23 := hI5.ext e22
 refine cw_ret ?_
 obtain rfl := Option.some.inj h
 refine fin1 Tryd.results59 rfl ?_
 exact ⟨rfl, hI23.kp⟩
noncomputable def P.account_Clashes (l : (List Report)) (account : Int) (known : Int) : Option ((List Clash) × Int) :=
  Option.bind (P.account_Check l) fun z1 => cond (!decide (z1 = 0)) (some ([], z1)) (Option.bind (Option.bind (P.account_in 0 999999 ([account] : List Int)) fun z12 => cond (!z12) (some true) (Option.bind (P.account_in 0 100000 ([known] : List Int)) fun z22 => some (!z22))) fun x27 => cond x27 (some ([], 2)) (Option.bind (P.account_kept l account 100000 known) fun z29 => Option.bind (P.account_book_paid (Book.mk z29.facts)) fun z45 => Option.bind (loopM (S := (List Clash) × Int) (R := ((List Clash))) (fun (x52, x53) => cond (decide (x53 < 7)) (Option.bind (chk .i64 (x53 + 1)) fun n55 => Option.bind (chk .u8 n55) fun n56 => Option.bind (P.account_book_of (Book.mk z29.facts) n56) fun z57 => Option.bind (cond (decide (n56 = 1)) (some true) (cond (decide (n56 = 6)) (some true) (some (decide (n56 = 7))))) fun x73 => Option.bind (loopM (S := (List Clash) × (List Report)) (R := ((List Clash) × (List Report))) (fun (x74, x75) => cond (decide (0 < (x75.length : Int))) (Option.bind (Option.bind (P.slices_IndexFunc_58 x75 (fun x0_ => P.account_Clashes_in1 x0_ x75)) fun z77 => Option.bind (cond (decide (0 < z77)) (some (!x73)) (some false)) fun x84 => Option.bind (cond x84 (some z77) (some (x75.length : Int))) fun x86 => some x86) fun x87 => Option.bind (ixo x75 0) fun y88 => Option.bind (cutHi x75 x87) fun l104 => Option.bind (P.account_told l104 x73) fun z105 => Option.bind (Option.bind (cond (decide (n56 = 4)) (Option.bind (some ((z45 y88.about).getD (Span.mk 0 0))) fun y116 => Option.bind (some ((z45 y88.about).getD (Span.mk 0 0))) fun y123 => some (!decide (y116.lo = y123.hi))) (some (decide (z105.known = 1)))) fun x130 => some x130) fun x131 => Option.bind (Option.bind (cond x131 (Option.bind (cutHi x75 x87) fun l135 => Option.bind (P.account_ids l135) fun z136 => Option.bind (appo 40 x74 ([(Clash.mk n56 y88.about z136)] : List Clash)) fun l151 => some l151) (some x74)) fun x156 => some x156) fun x157 => Option.bind (cutLo x75 x87) fun l160 => some (.inl (x157, l160))) (some (.inr (x74, x75)))) (x52, z57)) fun (x164, x165) => Option.bind (chk .i64 (x53 + 1)) fun n166 => some (.inl (x164, n166))) (some (.inr x52))) ([], 0)) fun x167 => some (x167, 0)))
theorem C_account_Clashes {M : List Nat} {w : World} (hM : MLt M w) (hG : RdC M w 0 0 (glob0.map (Value.int .i64))) {l : (List Report)} {v_l_0 : Value} (f_l_0 : RdS ReportE M w v_l_0 l) {account : Int} (f_account_0 : InK .i64 account) {known : Int} (f_known_0 : InK .i64 known) {r0 : (List Clash)} {r1 : Int} (h : P.account_Clashes l account known = some (r0, r1)) :
  Calls Tryd.prog 22 (List.toArray [v_l_0, vi account, vi known]) w fun e w' => ∃ v0_0 : Value, e = .returned (Value.tuple (List.toArray [v0_0, vi r1])) ∧ (Sx.Own ClashE 55 0 M w' v0_0 r0 ∧ ∀ b ∈ ob v0_0, w.heap.size ≤ b) ∧ InK .i64 r1 ∧ Ext w w' := by
 have hI := Hp.start (Mu := []) hM
 refine calls_cw Tryd.func22 rfl Tryd.ntmps22 rfl ?_
 refine cw_seq (cw_regF (s_as rfl rfl (s_as rfl rfl (Reg.nil (cw_seq (cw_seq (cw_regF (s_mv rfl rfl ?_))))))))
 obtain ⟨z1, hz2, h⟩ := bnd h
 refine s_call rfl Tryd.call17 rfl ((C_account_Check hI.mlt hG f_l_0 hz2).mono ?_)
 rintro _ w3 ⟨rfl, r5, e4⟩
 refine ⟨_, rfl, ?_⟩
 have hI6 := hI.ext e4
 refine s_as rfl rfl (Reg.nil (cw_seq (cw_regF (s_mv rfl rfl (s_neq rfl rfl rfl (Reg.nil (cw_cond rfl (fun hc7 => ?_) (fun hc7 => ?_))))))))
 ·replace h := cdT hc7 h
  refine cw_seq (cw_regF (s_mv rfl rfl (s_as rfl rfl (s_as rfl rfl (Reg.nil (cw_ret ?_))))))
  obtain ⟨rfl, rfl⟩ := inj2 h
  refine fin2 Tryd.results22 rfl rfl ?_
  exact ⟨_, rfl, ⟨Sx.Own.nil _ _ _ _ _, fun _ hb => by cases hb⟩, r5, hI6.kp⟩
 replace h := cdF hc7 h
 refine cw_skip (cw_seq ?_)
 obtain ⟨j8, h9, h⟩ := bnd h
 refine cw_keep [0, 1, 2] rfl (cw_seqD 0 (ι := Bool) (fun x10 => [(34, Value.bool x10)]) (fun x10 => fun w11 => Hp w [] M [] w11 ∧ Adv (mm [] M) (mm [] M) w3 w11 ∧ x10 = j8) ?_ ?_)
 ·refine cw_regF (s_mv rfl rfl (y_bs (E := (intE .i64)) (xs := [account]) sl36 hI6 rfl rfl (Cls.cons rfl Cls.nil) (Chs.cons ⟨rfl, f_account_0⟩ Chs.nil) rfl rfl ?_))
  intro v14 w15 hI16 x17
  obtain ⟨z18, hz19, h9⟩ := bnd h9
  refine s_call rfl Tryd.call35 rfl ?_
  refine (C_account_in (hI16.sel [] rfl).mlt (by decide) (by decide) (hI16.lendRd [] 0 rfl rfl) hz19).mono ?_
  rintro _ w20 ⟨rfl, e21⟩
  refine ⟨_, rfl, ?_⟩
  have hI22 := hI16.ext e21
  refine s_not rfl rfl (s_mv rfl rfl (Reg.gsplit (t := 29) rfl (fun hg23 => ?_) (fun hg23 => ?_)))
  ·replace h9 := cdT hg23 h9
   iterate 4 refine Reg.pass rfl rfl rfl rfl ?_
   refine s_pkT rfl rfl rfl (Reg.nil ?_)
   obtain rfl := Option.some.inj h9
   refine ⟨rfl, true, ⟨(hI22.sel [] rfl), ((x17.trans (Adv.of_ext e21)).trans (Hp.selA (σ := [ownR [] (intE .i64) 3 v14 ([account] : List Int)]) [])), rfl⟩, sb4 rfl rfl rfl rfl⟩
  replace h9 := cdF hg23 h9
  refine Reg.take rfl rfl (s_mv rfl rfl (Reg.take rfl rfl (y_bs (E := (intE .i64)) (xs := [known]) sl36 hI22 rfl rfl (Cls.cons rfl Cls.nil) (Chs.cons ⟨rfl, f_known_0⟩ Chs.nil) rfl rfl ?_)))
  intro v24 w25 hI26 x27
  refine Reg.take rfl rfl ?_
  obtain ⟨z28, hz29, h9⟩ := bnd h9
  refine s_call rfl Tryd.call35 rfl ?_
  refine (C_account_in (hI26.sel [1] rfl).mlt (by decide) (by decide) (hI26.lendRd [1] 0 rfl rfl) hz29).mono ?_
  rintro _ w30 ⟨rfl, e31⟩
  refine ⟨_, rfl, ?_⟩
  have hI32 := hI26.ext e31
  refine Reg.take rfl rfl (s_not rfl rfl (s_pkF rfl rfl rfl (Reg.nil ?_)))
  obtain rfl := Option.some.inj h9
  refine ⟨rfl, !z28, ⟨(hI32.sel [] rfl), ((x17.trans ((Adv.of_ext e21).trans (x27.trans (Adv.of_ext e31)))).trans (Hp.selA (σ := [ownR [] (intE .i64) 3 v24 ([known] : List Int), ownR [] (intE .i64) 3 v14 ([account] : List Int)]) [])), rfl⟩, sb4 rfl rfl rfl rfl⟩
 rintro x10 w11 ⟨hI12, hA13, rfl⟩
 refine cw_cond rfl (fun hc33 => ?_) (fun hc33 => ?_)
 ·replace h := cdT hc33 h
  refine cw_seq (cw_regF (s_as rfl rfl (s_as rfl rfl (Reg.nil (cw_ret ?_)))))
  obtain ⟨rfl, rfl⟩ := inj2 h
  refine fin2 Tryd.results22 rfl rfl ?_
  exact ⟨_, rfl, ⟨Sx.Own.nil _ _ _ _ _, fun _ hb => by cases hb⟩, (by decide), hI12.kp⟩
 replace h := cdF hc33 h
 refine cw_skip (cw_seq (cw_regF ?_))
 iterate 3 refine s_mv rfl rfl ?_
 obtain ⟨z34, hz35, h⟩ := bnd h
 refine s_call rfl Tryd.call52 rfl ?_
 refine (C_account_kept hI12.mlt (hG.adv hI12.adv) (f_l_0.adv hI12.adv) f_account_0 (by decide) f_known_0 hz35).mono ?_
 rintro _ w36 ⟨v38, rfl, hf39, e37⟩
 refine ⟨_, rfl, ?_⟩
 have hI40 := hI12.ext e37
 refine y_al hI40 Tryd.zeroValue105 rfl rfl ?_
 intro b41 w42 hI43 x44
 refine y_st 0 hI43 rfl rfl rfl rfl Tryd.sizeOf105 rfl rfl (one1 (RdS.oneC hf39) one0) ?_
 intro w45 hI46 x47
 have hC49 := hI46.freezeRow 0 rfl
 have hI48 := hI46.erase 0
 refine Reg.nil (cw_seq (cw_regF (s_lda rfl hC49.cells Tryd.isAgg105 rfl Tryd.sizeOf105 rfl ?_)))
 obtain ⟨z50, hz51, h⟩ := bnd h
 refine s_call rfl Tryd.call54 rfl ((C_account_book_paid (b := (Book.mk z34.facts)) hI48.mlt (hf39.adv (x44.trans (x47.trans (hI46.eraseH 0)))) hz51).mono ?_)
 rintro _ w52 ⟨v54, rfl, hf55, e53⟩
 refine ⟨_, rfl, ?_⟩
 have hI56 := hI48.ext e53
 refine s_as rfl rfl (Reg.nil (cw_seq (cw_regF (s_as rfl rfl (Reg.nil (cw_seq (cw_seq (cw_regF (s_mv rfl rfl (Reg.nil ?_))))))))))
 obtain ⟨j57, h58, h⟩ := bnd h
 refine cw_keep [9, 10, 11, 41] rfl (cw_unitD 4 (ι := (List Clash) × Value) (fun ⟨x59, v60⟩ => [(11, v60)]) (fun ⟨x59, v60⟩ => fun w61 => Hp w [] M [ownR [] ClashE 55 v60 x59] w61 ∧ Adv (mm [] M) (mm [ownR [] ClashE 55 v60 x59] M) w52 w61 ∧ x59 = j57) ?_ ?_)
 ·refine cw_block (cw_keep [11, 41, 9, 10] rfl ?_)
  have hI71 := hI56.addNil ClashE 55
  refine cw_loopM 2 (ι := (List Clash) × Int × Value) _ (fun ⟨x64, x66, v65⟩ => [(11, v65), (41, vi x66)]) (fun ⟨x64, x66, v65⟩ => (x64, x66)) (fun ⟨x64, x66, v65⟩ => fun w68 => Hp w [] M [ownR [] ClashE 55 v65 x64] w68 ∧ Adv (mm [] M) (mm [ownR [] ClashE 55 v65 x64] M) w52 w68 ∧ InK .i64 x66) (([] : List Clash), 0, (vn)) h58 ⟨hI71, (hI56.addNilH ClashE 55), (by decide)⟩ (sb4 rfl rfl rfl rfl) ?_
  rintro ⟨x64, x66, v65⟩ w68 ⟨hI69, hA70, r67⟩ y72 h73 hR74
  refine cw_seq (cw_regF (s_lss rfl rfl rfl (Reg.nil (cw_seq (cw_cond rfl (fun hc75 => ?_) (fun hc75 => ?_))))))
  ·replace h73 := cdT hc75 h73
   refine cw_skip (cw_seq (cw_block (cw_seq (cw_regF (s_mv rfl rfl (s_as rfl rfl (Reg.nil (cw_seq (cw_regF (s_mv rfl rfl ?_))))))))))
   obtain ⟨n76, hn76, h73⟩ := bnd h73
   replace hn76 := chk_out hn76
   refine p_add rfl rfl rfl hn76 ?_
   obtain ⟨n77, hn77, h73⟩ := bnd h73
   replace hn77 := chk_out hn77
   refine p_cvt rfl Tryd.underlying3 Tryd.underlying5 rfl hn77 ?_
   refine s_as rfl rfl (Reg.nil (cw_seq (cw_regF (s_lda rfl (hC49.adv ((Adv.of_ext e53).trans hA70)).cells Tryd.isAgg105 rfl Tryd.sizeOf105 rfl (s_mv rfl rfl ?_)))))
   obtain ⟨z78, hz79, h73⟩ := bnd h73
   refine s_call rfl Tryd.call57 rfl ((C_account_book_of (b := (Book.mk z34.facts)) hI69.mlt (hf39.adv (x44.trans (x47.trans ((hI46.eraseH 0).trans ((Adv.of_ext e53).trans hA70))))) hn77.2 hz79).mono ?_)
   rintro _ w80 ⟨v82, rfl, hf83, e81⟩
   refine ⟨_, rfl, ?_⟩
   have hI84 := hI69.addOwn e81 hf83
   refine y_al hI84 Tryd.zeroValue22 rfl rfl ?_
   intro b85 w86 hI87 x88
   refine y_st 0 hI87 rfl rfl rfl (Sx.Own.cells1 (hI87.ownAt 1 rfl)) Tryd.sizeOf22 rfl rfl (one1 (Sx.Own.oneC (hI87.ownAt 1 rfl)) one0) ?_
   intro w89 hI90 x91
   refine Reg.nil ?_
   obtain ⟨j92, h93, h73⟩ := bnd h73
   refine cw_keep [9, 10, 11, 13, 14, 41] rfl (cw_seqD 0 (ι := Bool) (fun x94 => [(15, Value.bool x94)]) (fun x94 => fun w95 => w89 = w95 ∧ x94 = j92) ?_ ?_)
   ·refine cw_regF (s_mv rfl rfl (s_eql rfl rfl rfl (s_mv rfl rfl (Reg.gsplit (t := 52) rfl (fun hg98 => ?_) (fun hg98 => ?_)))))
    ·replace h93 := cdT hg98 h93
     refine Reg.pass rfl rfl rfl rfl (Reg.pass rfl rfl rfl rfl (s_pkT rfl rfl rfl (s_mv rfl rfl (Reg.pass rfl rfl rfl rfl (Reg.pass rfl rfl rfl rfl (s_pkT rfl rfl rfl (s_as rfl rfl (Reg.nil ?_))))))))
     obtain rfl := Option.some.inj h93
     refine ⟨rfl, true, ⟨rfl, rfl⟩, sb7 rfl rfl rfl rfl rfl rfl rfl⟩
    replace h93 := cdF hg98 h93
    refine Reg.take rfl rfl (s_mv rfl rfl (Reg.take rfl rfl (s_eql rfl rfl rfl (s_pkF rfl rfl rfl (s_mv rfl rfl (Reg.gsplit (t := 56) rfl (fun hg99 => ?_) (fun hg99 => ?_)))))))
    ·replace h93 := cdT hg99 h93
     refine Reg.pass rfl rfl rfl rfl (Reg.pass rfl rfl rfl rfl (s_pkT rfl rfl rfl (s_as rfl rfl (Reg.nil ?_))))
     obtain rfl := Option.some.inj h93
     refine ⟨rfl, true, ⟨rfl, rfl⟩, sb7 rfl rfl rfl rfl rfl rfl rfl⟩
    replace h93 := cdF hg99 h93
    refine Reg.take rfl rfl (s_mv rfl rfl (Reg.take rfl rfl (s_eql rfl rfl rfl (s_pkF rfl rfl rfl (s_as rfl rfl (Reg.nil ?_))))))
    obtain rfl := Option.some.inj h93
    refine ⟨rfl, decide (n77 = 7), ⟨rfl, rfl⟩, sb7 rfl rfl rfl rfl rfl rfl rfl⟩
   rintro x94 _ ⟨rfl, rfl⟩
   obtain ⟨j100, h101, h73⟩ := bnd h73
   refine cw_keep [11, 13, 14, 15, 9, 10, 41] rfl (cw_unitD 4 (ι := (List Clash) × (List Report) × Value × Value) (fun ⟨x102, x104, v103, v105⟩ => [(11, v103)]) (fun ⟨x102, x104, v103, v105⟩ => fun w107 => Hp w [] M [ownR [] ClashE 55 v103 x102, rowR 22 b85 [v105]] w107 ∧ Adv (mm [rowR 22 b85 [v82], ownR [] ReportE 61 v82 z78, ownR [] ClashE 55 v65 x64] M) (mm [ownR [] ClashE 55 v103 x102, rowR 22 b85 [v105]] M) w89 w107 ∧ RdS ReportE (mm [ownR [] ClashE 55 v103 x102, rowR 22 b85 [v105]] M) w107 v105 x104 ∧ (x102, x104) = j100) ?_ ?_)
   ·refine cw_block (cw_keep [11, 9, 10, 13, 14, 15, 41] rfl ?_)
    have hf118 := hI90.freeze 1 rfl
    have hI119 := hI90.erase 1
    refine cw_loopM 1 (ι := (List Clash) × (List Report) × Value × Value) _ (fun ⟨x110, x112, v111, v113⟩ => [(11, v111)]) (fun ⟨x110, x112, v111, v113⟩ => (x110, x112)) (fun ⟨x110, x112, v111, v113⟩ => fun w115 => Hp w [] M [ownR [] ClashE 55 v111 x110, rowR 22 b85 [v113]] w115 ∧ Adv (mm [rowR 22 b85 [v82], ownR [] ReportE 61 v82 z78, ownR [] ClashE 55 v65 x64] M) (mm [ownR [] ClashE 55 v111 x110, rowR 22 b85 [v113]] M) w89 w115 ∧ RdS ReportE (mm [ownR [] ClashE 55 v111 x110, rowR 22 b85 [v113]] M) w115 v113 x112) (x64, z78, v65, v82) h101 ⟨(hI119.sel [1, 0] rfl), ((hI90.eraseH 1).trans (Hp.selA (σ := [rowR 22 b85 [v82], ownR [] ClashE 55 v65 x64]) [1, 0])), (hf118.adv (Hp.selA (σ := [rowR 22 b85 [v82], ownR [] ClashE 55 v65 x64]) [1, 0]))⟩ (sb7 rfl rfl rfl rfl rfl rfl rfl) ?_
    rintro ⟨x110, x112, v111, v113⟩ w115 ⟨hI116, hA117, hf114⟩ y120 h121 hR122
    refine cw_seq (cw_seq (cw_regF (s_ld rfl ((hI116.row 1 rfl).rd.cells.at 0 rfl) Tryd.isAgg22 rfl (s_len rfl hf114 Tryd.underlying22 rfl (s_gtr rfl rfl rfl (Reg.nil (cw_cond rfl (fun hc123 => ?_) (fun hc123 => ?_))))))))
    ·replace h121 := cdT hc123 h121
     refine cw_skip (cw_block (cw_seq (cw_regF (s_ld rfl ((hI116.row 1 rfl).rd.cells.at 0 rfl) Tryd.isAgg22 rfl (s_len rfl hf114 Tryd.underlying22 rfl (s_as rfl rfl (Reg.nil ?_)))))))
     obtain ⟨j124, h125, h121⟩ := bnd h121
     refine cw_keep [16, 9, 10, 11, 13, 14, 15, 41] rfl (cw_seqD 1 (ι := Int) (fun x126 => [(16, vi x126)]) (fun x126 => fun w128 => Hp w [] M [ownR [] ClashE 55 v111 x110, rowR 22 b85 [v113]] w128 ∧ Adv (mm [ownR [] ClashE 55 v111 x110, rowR 22 b85 [v113]] M) (mm [ownR [] ClashE 55 v111 x110, rowR 22 b85 [v113]] M) w115 w128 ∧ InK .i64 x126 ∧ x126 = j124) ?_ ?_)
     ·refine cw_seq (cw_regF (s_ld rfl ((hI116.row 1 rfl).rd.cells.at 0 rfl) Tryd.isAgg22 rfl (s_mf rfl rfl ?_)))
      obtain ⟨z131, hz132, h125⟩ := bnd h125
      refine s_call rfl Tryd.call58 rfl ((C_slices_IndexFunc_58 (hI116.sel [0] rfl).mlt (hf114.adv (Hp.selA (σ := [ownR [] ClashE 55 v111 x110, rowR 22 b85 [v113]]) [0])) (fun a0 r w9 e9 f0 f1 f2 f3 f4 f5 f6 f7 hr => CallsV.ofL Tryd.call59 rfl (C_account_Clashes_in1 ((hI116.sel [0] rfl).mlt.ext e9) f0 f1 f2 f3 f4 f5 f6 f7 (hf114.adv ((Hp.selA (σ := [ownR [] ClashE 55 v111 x110, rowR 22 b85 [v113]]) (M := M) [0]).trans (Adv.of_ext e9))) ((hI116.lendC [0] 1 rfl rfl).adv (Adv.of_ext e9)) hr)) hz132).mono ?_)
      rintro _ w133 ⟨rfl, r135, e134⟩
      refine ⟨_, rfl, ?_⟩
      have hI136 := hI116.ext e134
      refine s_as rfl rfl (Reg.nil ?_)
      obtain ⟨j137, h138, h125⟩ := bnd h125
      refine cw_keep [9, 10, 11, 13, 14, 15, 16, 17, 41] rfl (cw_seqD 0 (ι := Bool) (fun x139 => [(73, Value.bool x139)]) (fun x139 => fun w140 => w133 = w140 ∧ x139 = j137) ?_ ?_)
      ·refine cw_regF (s_mv rfl rfl (s_gtr rfl rfl rfl (s_mv rfl rfl (Reg.gsplit (t := 70) rfl (fun hg143 => ?_) (fun hg143 => ?_)))))
       ·replace h138 := cdT hg143 h138
        refine Reg.take rfl rfl (s_mv rfl rfl (Reg.take rfl rfl (s_not rfl rfl (s_pkT rfl rfl rfl (Reg.nil ?_)))))
        obtain rfl := Option.some.inj h138
        refine ⟨rfl, !x94, ⟨rfl, rfl⟩, sb10 rfl rfl rfl rfl rfl rfl rfl rfl rfl rfl⟩
       replace h138 := cdF hg143 h138
       refine Reg.pass rfl rfl rfl rfl (Reg.pass rfl rfl rfl rfl (s_pkF rfl rfl rfl (Reg.nil ?_)))
       obtain rfl := Option.some.inj h138
       refine ⟨rfl, false, ⟨rfl, rfl⟩, sb10 rfl rfl rfl rfl rfl rfl rfl rfl rfl rfl⟩
      rintro x139 _ ⟨rfl, rfl⟩
      obtain ⟨j144, h145, h125⟩ := bnd h125
      refine cw_keep [16, 17, 73, 9, 10, 11, 13, 14, 15, 41] rfl (cw_unitD 3 (ι := Int) (fun x146 => [(16, vi x146)]) (fun x146 => fun w148 => w133 = w148 ∧ InK .i64 x146 ∧ x146 = j144) ?_ ?_)
      ·refine cw_cond rfl (fun hc151 => ?_) (fun hc151 => ?_)
       ·replace h145 := cdT hc151 h145
        refine cw_regF (s_mv rfl rfl (s_as rfl rfl (Reg.nil ?_)))
        obtain rfl := Option.some.inj h145
        refine ⟨rfl, z131, ⟨rfl, r135, rfl⟩, sb8 rfl rfl rfl rfl rfl rfl rfl rfl⟩
       replace h145 := cdF hc151 h145
       refine cw_skip ?_
       obtain rfl := Option.some.inj h145
       refine ⟨rfl, (x112.length : Int), ⟨rfl, (RdS.inK hf114), rfl⟩, sb8 rfl rfl rfl rfl rfl rfl rfl rfl⟩
      rintro x146 _ ⟨rfl, r147, rfl⟩
      obtain rfl := Option.some.inj h125
      refine ⟨rfl, x146, ⟨hI136, (Adv.of_ext e134), r147, rfl⟩, sb8 rfl rfl rfl rfl rfl rfl rfl rfl⟩
     rintro x126 w128 ⟨hI129, hA130, r127, rfl⟩
     refine cw_seq (cw_regF (s_ld rfl ((hI129.row 1 rfl).rd.cells.at 0 rfl) Tryd.isAgg22 rfl ?_))
     obtain ⟨y152, hy152, h121⟩ := bnd h121
     refine p_ia rfl rfl (hf114.adv hA130) hy152 Tryd.underlying22 Tryd.sizeOf61 rfl ?_
     intro b153 o154 cs155 hR156 hC157
     obtain ⟨rfl, r158, r159, r160, r161, r162, r163, r164, r165⟩ := ReportE_R.1 hR156
     refine s_fa rfl Tryd.underlying61 rfl Tryd.sizeOf3 rfl (s_ld rfl (hC157.cells.at 4 rfl) Tryd.isAgg3 rfl (s_as rfl rfl (Reg.nil (cw_seq (cw_regF (s_ld rfl ((hI129.row 1 rfl).rd.cells.at 0 rfl) Tryd.isAgg22 rfl (s_mv rfl rfl ?_)))))))
     obtain ⟨l168, hl168, h121⟩ := bnd h121
     obtain ⟨hbl168, el168⟩ := cutHi_out hl168
     refine s_slH rfl rfl (hf114.adv hA130) hbl168 Tryd.underlying22 Tryd.sizeOf61 rfl ?_
     rw [← el168]; intro v166 hf167 _
     refine s_mv rfl rfl ?_
     obtain ⟨z169, hz170, h121⟩ := bnd h121
     refine s_call rfl Tryd.call60 rfl ((C_account_told hI129.mlt hf167 hz170).mono ?_)
     rintro _ w171 ⟨v176, rfl, r173, r174, r175, hf177, e172⟩
     refine ⟨_, rfl, ?_⟩
     have hI178 := hI129.ext e172
     refine s_fd rfl Tryd.underlying38 rfl Tryd.isAgg5 rfl rfl ?_
     refine s_eql rfl rfl rfl (s_as rfl rfl (Reg.nil ?_))
     obtain ⟨j179, h180, h121⟩ := bnd h121
     refine cw_keep [19, 9, 10, 11, 13, 14, 15, 16, 18, 41] rfl (cw_seqD 1 (ι := Bool) (fun x181 => [(19, Value.bool x181)]) (fun x181 => fun w182 => w171 = w182 ∧ x181 = j179) ?_ ?_)
     ·refine cw_seq (cw_regF (s_mv rfl rfl (s_eql rfl rfl rfl (Reg.nil ?_))))
      obtain ⟨j185, h186, h180⟩ := bnd h180
      refine cw_keep [19, 87, 9, 10, 11, 13, 14, 15, 16, 18, 41] rfl (cw_unitD 2 (ι := Bool) (fun x187 => [(19, Value.bool x187)]) (fun x187 => fun w188 => w171 = w188 ∧ x187 = j185) ?_ ?_)
      ·refine cw_cond rfl (fun hc191 => ?_) (fun hc191 => ?_)
       ·replace h186 := cdT hc191 h186
        refine cw_regF (s_mv rfl rfl (s_mv rfl rfl ?_))
        obtain ⟨y192, hy192, h186⟩ := bnd h186
        refine s_lkF1 (a := y152.about) (z0 := (Span.mk 0 0)) (hf55.adv (hA70.trans ((hI69.addOwnA e81 hf83).trans (x88.trans (x91.trans (hA117.trans (hA130.trans (Adv.of_ext e172)))))))) rfl rfl (show InK .i64 y152.about from r162) Tryd.underlying115 Tryd.zeroValue40 ⟨_, ((SpanE_R (x := (Span.mk 0 0))).2 ⟨rfl, (show InK .i64 0 by decide), (show InK .i64 0 by decide)⟩), .inl ⟨rfl, rfl⟩⟩ rfl ?_
        intro v193 hv194
        rw [Option.some.inj hy192] at hv194
        obtain ⟨cs195, hR196, rfl⟩ := Vl.agg hv194
        obtain ⟨rfl, r197, r198⟩ := SpanE_R.1 hR196
        refine s_fd rfl Tryd.underlying40 rfl Tryd.isAgg3 rfl rfl ?_
        refine s_mv rfl rfl (s_mv rfl rfl ?_)
        obtain ⟨y199, hy199, h186⟩ := bnd h186
        refine s_lkF1 (a := y152.about) (z0 := (Span.mk 0 0)) (hf55.adv (hA70.trans ((hI69.addOwnA e81 hf83).trans (x88.trans (x91.trans (hA117.trans (hA130.trans (Adv.of_ext e172)))))))) rfl rfl (show InK .i64 y152.about from r162) Tryd.underlying115 Tryd.zeroValue40 ⟨_, ((SpanE_R (x := (Span.mk 0 0))).2 ⟨rfl, (show InK .i64 0 by decide), (show InK .i64 0 by decide)⟩), .inl ⟨rfl, rfl⟩⟩ rfl ?_
        intro v200 hv201
        rw [Option.some.inj hy199] at hv201
        obtain ⟨cs202, hR203, rfl⟩ := Vl.agg hv201
        obtain ⟨rfl, r204, r205⟩ := SpanE_R.1 hR203
        refine s_fd rfl Tryd.underlying40 rfl Tryd.isAgg3 rfl rfl ?_
        refine s_neq rfl rfl rfl (s_as rfl rfl (Reg.nil ?_))
        obtain rfl := Option.some.inj h186
        refine ⟨rfl, !decide (y192.lo = y199.hi), ⟨rfl, rfl⟩, sb10 rfl rfl rfl rfl rfl rfl rfl rfl rfl rfl⟩
       replace h186 := cdF hc191 h186
       refine cw_skip ?_
       obtain rfl := Option.some.inj h186
       refine ⟨rfl, decide (z169.known = 1), ⟨rfl, rfl⟩, sb10 rfl rfl rfl rfl rfl rfl rfl rfl rfl rfl⟩
      rintro x187 _ ⟨rfl, rfl⟩
      obtain rfl := Option.some.inj h180
      refine ⟨rfl, x187, ⟨rfl, rfl⟩, sb10 rfl rfl rfl rfl rfl rfl rfl rfl rfl rfl⟩
     rintro x181 _ ⟨rfl, rfl⟩
     obtain ⟨j206, h207, h121⟩ := bnd h121
     refine cw_keep [11, 18, 19, 9, 10, 13, 14, 15, 16, 41] rfl (cw_seqD 3 (ι := (List Clash) × Value) (fun ⟨x208, v209⟩ => [(11, v209)]) (fun ⟨x208, v209⟩ => fun w210 => Hp w [] M [ownR [] ClashE 55 v209 x208, rowR 22 b85 [v113]] w210 ∧ Adv (mm [ownR [] ClashE 55 v111 x110, rowR 22 b85 [v113]] M) (mm [ownR [] ClashE 55 v209 x208, rowR 22 b85 [v113]] M) w171 w210 ∧ x208 = j206) ?_ ?_)
     ·refine cw_seq (cw_regF (s_mv rfl rfl (Reg.nil ?_)))
      obtain ⟨j213, h214, h207⟩ := bnd h207
      refine cw_keep [11, 18, 97, 9, 10, 13, 14, 15, 16, 41] rfl (cw_unitD 3 (ι := (List Clash) × Value) (fun ⟨x215, v216⟩ => [(11, v216)]) (fun ⟨x215, v216⟩ => fun w217 => Hp w [] M [ownR [] ClashE 55 v216 x215, rowR 22 b85 [v113]] w217 ∧ Adv (mm [ownR [] ClashE 55 v111 x110, rowR 22 b85 [v113]] M) (mm [ownR [] ClashE 55 v216 x215, rowR 22 b85 [v113]] M) w171 w217 ∧ x215 = j213) ?_ ?_)
      ·refine cw_cond rfl (fun hc220 => ?_) (fun hc220 => ?_)
       ·replace h214 := cdT hc220 h214
        refine cw_regF ?_
        iterate 3 refine s_mv rfl rfl ?_
        refine s_ld rfl ((hI178.row 1 rfl).rd.cells.at 0 rfl) Tryd.isAgg22 rfl (s_mv rfl rfl ?_)
        obtain ⟨l223, hl223, h214⟩ := bnd h214
        obtain ⟨hbl223, el223⟩ := cutHi_out hl223
        refine s_slH rfl rfl (hf114.adv (hA130.trans (Adv.of_ext e172))) hbl223 Tryd.underlying22 Tryd.sizeOf61 rfl ?_
        rw [← el223]; intro v221 hf222 _
        obtain ⟨z224, hz225, h214⟩ := bnd h214
        refine s_call rfl Tryd.call61 rfl ((C_account_ids hI178.mlt hf222 hz225).mono ?_)
        rintro _ w226 ⟨v228, rfl, hf229, e227⟩
        refine ⟨_, rfl, ?_⟩
        have hI230 := hI178.addOwn e227 hf229
        refine s_bd [(0, 1), (1, 1), (2, 1)] Tryd.zeroValue55 rfl Tryd.underlying55 (fun _ => by simp [Tryd.sizeOf3, Tryd.sizeOf36, Tryd.sizeOf5]) rfl (Cls.cons rfl (Cls.cons rfl (Cls.cons (Sx.Own.cells1 (hI230.ownAt 0 rfl)) (Cls.nil)))) rfl rfl ?_
        have hf231 := hI230.freeze 0 rfl
        have hI232 := hI230.erase 0
        refine y_bs (E := ClashE) (xs := [(Clash.mk n77 y152.about z224)]) sl47 hI232 rfl rfl (Cls.cons rfl Cls.nil) (Chs.cons ((ClashE_R (x := (Clash.mk n77 y152.about z224))).2 ⟨_, rfl, hn77.2, r162, hf231⟩) Chs.nil) rfl rfl ?_
        intro v233 w234 hI235 x236
        have hf237 := hI235.freeze 0 rfl
        have hI238 := hI235.erase 0
        obtain ⟨l239, hl239, h214⟩ := bnd h214
        obtain ⟨hbl239, el239⟩ := appo_out hl239
        refine y_app 0 sl47 hI238 rfl rfl rfl hf237 hbl239 rfl ?_
        rw [← el239]
        intro v240 w241 hI242 x243
        refine s_as rfl rfl (Reg.nil ?_)
        obtain rfl := Option.some.inj h214
        refine ⟨rfl, (l239, v240), ⟨hI242, ((hI178.addOwnA e227 hf229).trans ((hI230.eraseH 0).trans (x236.trans ((hI235.eraseH 0).trans x243)))), rfl⟩, sb8 rfl rfl rfl rfl rfl rfl rfl rfl⟩
       replace h214 := cdF hc220 h214
       refine cw_skip ?_
       obtain rfl := Option.some.inj h214
       refine ⟨rfl, (x110, v111), ⟨hI178, (Adv.refl _ _), rfl⟩, sb8 rfl rfl rfl rfl rfl rfl rfl rfl⟩
      rintro ⟨x215, v216⟩ w217 ⟨hI218, hA219, rfl⟩
      obtain rfl := Option.some.inj h207
      refine ⟨rfl, (x215, v216), ⟨hI218, hA219, rfl⟩, sb8 rfl rfl rfl rfl rfl rfl rfl rfl⟩
     rintro ⟨x208, v209⟩ w210 ⟨hI211, hA212, rfl⟩
     refine cw_regF (s_ld rfl ((hI211.row 1 rfl).rd.cells.at 0 rfl) Tryd.isAgg22 rfl (s_mv rfl rfl ?_))
     obtain ⟨l246, hl246, h121⟩ := bnd h121
     obtain ⟨hbl246, el246⟩ := cutLo_out hl246
     refine s_slL rfl rfl (hf114.adv (hA130.trans ((Adv.of_ext e172).trans hA212))) hbl246 Tryd.underlying22 Tryd.sizeOf61 rfl ?_
     rw [← el246]; intro v244 hf245
     refine y_st 1 hI211 rfl rfl rfl (RdS.cells1 hf245) Tryd.sizeOf22 rfl rfl (one1 (RdS.oneC hf245) one0) ?_
     intro w247 hI248 x249
     refine Reg.nil ?_
     obtain rfl := Option.some.inj h121
     refine ⟨rfl, (x208, l246, v209, v244), ⟨⟨hI248, (hA117.trans (hA130.trans ((Adv.of_ext e172).trans (hA212.trans x249)))), (hf245.adv x249)⟩, rfl⟩, sb7 rfl rfl rfl rfl rfl rfl rfl⟩
    replace h121 := cdF hc123 h121
    refine cw_exit (exB_same ?_)
    obtain rfl := Option.some.inj h121
    obtain rfl := hR122 _ rfl
    refine ⟨rfl, (x110, x112, v111, v113), ⟨hI116, hA117, hf114, rfl⟩, sb4 rfl rfl rfl rfl⟩
   rintro ⟨x102, x104, v103, v105⟩ w107 ⟨hI108, hA109, hf106, rfl⟩
   refine cw_regF ?_
   obtain ⟨n250, hn250, h73⟩ := bnd h73
   replace hn250 := chk_out hn250
   refine p_add rfl rfl rfl hn250 (s_mv rfl rfl (Reg.nil ?_))
   obtain rfl := Option.some.inj h73
   refine ⟨rfl, (x102, n250, v103), ⟨⟨(hI108.sel [0] rfl), ((hA70.trans ((hI69.addOwnA e81 hf83).trans (x88.trans (x91.trans hA109)))).trans (Hp.selA (σ := [ownR [] ClashE 55 v103 x102, rowR 22 b85 [v105]]) [0])), hn250.2⟩, rfl⟩, sb4 rfl rfl rfl rfl⟩
  replace h73 := cdF hc75 h73
  refine cw_exit (exB_same ?_)
  obtain rfl := Option.some.inj h73
  obtain rfl := hR74 _ rfl
  refine ⟨rfl, (x64, v65), ⟨hI69, hA70, rfl⟩, sb1 rfl⟩
 rintro ⟨x59, v60⟩ w61 ⟨hI62, hA63, rfl⟩
 refine cw_seq (cw_regF (s_mv rfl rfl (s_as rfl rfl (s_as rfl rfl (Reg.nil (cw_ret ?_))))))
 obtain ⟨rfl, rfl⟩ := inj2 h
 refine fin2 Tryd.results22 rfl rfl ?_
 exact ⟨_, rfl, (hI62.ownOut 0 rfl), (by decide), hI62.kp⟩
end Go.Proofs.YtepjkmoipjeghaaDoor
namespace Go.Proofs.YtepjkmoipjeghaaDoor
open Go Go.Sx
namespace S
theorem eta (r : Report) : Report.mk r.id r.source r.account r.made r.about r.kind r.cents r.of_ = r := rfl
theorem etaT (r : Told) : Told.mk r.known r.cents r.since r.by_ = r := rfl
/-! What facts are like. -/
structure FO (F : List Report) : Prop where
  s : F.Pairwise le
  nd : (F.map (·.id)).Nodup
  len : F.length ≤ 60
  k : ∀ r ∈ F, 1 ≤ r.kind ∧ r.kind ≤ 7
  c : ∀ r ∈ F, 0 ≤ r.cents ∧ r.cents ≤ 1000000000000
  a : ∀ r ∈ F, 0 ≤ r.about ∧ r.about ≤ 100000
theorem FO.sub {F G : List Report} (h : FO F) (hs : G.Sublist F) : FO G :=
  ⟨h.s.sublist hs, (hs.map _).nodup h.nd, Nat.le_trans hs.length_le h.len, fun r hr => h.k r (hs.subset hr), fun r hr => h.c r (hs.subset hr), fun r hr => h.a r (hs.subset hr)⟩
theorem FO.filter {F : List Report} (h : FO F) (p : Report → Bool) : FO (F.filter p) := h.sub List.filter_sublist
/-- The Ids of reports, in order. -/
def sid (L : List Report) : List Int := (L.map (·.id)).mergeSort fun a b => decide (a ≤ b)
theorem sid_is {L : List Report} {S : List Int} (h : S.Perm (L.map (·.id))) (hs : S.Pairwise (· ≤ ·)) : S = sid L := by
  have h1 : (sid L).Pairwise (· ≤ ·) := (List.pairwise_mergeSort (fun a b c h1 h2 => by simp at *; omega) (fun a b => by simp; omega) _).imp fun h => of_decide_eq_true h
  exact List.Perm.eq_of_pairwise (fun a b _ _ h1 h2 => by omega) hs h1 (h.trans (List.mergeSort_perm _ _).symm)
theorem sid_perm (L : List Report) : (sid L).Perm (L.map (·.id)) := List.mergeSort_perm _ _
theorem sid_sorted (L : List Report) : (sid L).Pairwise (· ≤ ·) := (List.pairwise_mergeSort (fun a b c h1 h2 => by simp at *; omega) (fun a b => by simp; omega) _).imp fun h => of_decide_eq_true h
theorem sid_len (L : List Report) : (sid L).length = L.length := by rw [(sid_perm L).length_eq, List.length_map]
/-- Whether a fact tells what the first one tells. -/
def ag (only : Bool) (f r : Report) : Bool := decide (r.cents = f.cents) && (!only || decide (r.about = f.about))
def told (only : Bool) : List Report → Told
  | [] => ⟨0, 0, 0, []⟩
  | f :: r => if (f :: r).all (ag only f) then ⟨2, f.cents, f.about, sid (f :: r)⟩ else ⟨1, 0, f.about, sid (f :: r)⟩
theorem told_cons {only : Bool} {f : Report} {r : List Report} : told only (f :: r) = if (f :: r).all (ag only f) then ⟨2, f.cents, f.about, sid (f :: r)⟩ else ⟨1, 0, f.about, sid (f :: r)⟩ := rfl
def fk (F : List Report) (k : Int) : List Report := F.filter fun r => decide (r.kind = k)
def grp (L : List Report) (d : Int) : List Report := L.filter fun r => decide (r.about = d)
def lastT (L : List Report) : Told := match L.getLast? with
  | none => told false []
  | some z => told false (grp L z.about)
/-! The program. -/
theorem cmp_neg {x y : Int} : cmpI x y < 0 ↔ x < y := by unfold cmpI; split <;> (try split) <;> omega
theorem p_ord1 {a b : Report} : P.account_ordered_api_Report_in1 a b [76] = some (cmpI a.id b.id) := by
  obtain ⟨z, h1, h2⟩ : Ret (P.account_ordered_api_Report_in1 a b [76]) fun z => z = cmpI a.id b.id := by
    unfold P.account_ordered_api_Report_in1
    have g2 : ∀ r : Report, P.fn135 76 (Report.mk r.id r.source r.account r.made r.about r.kind r.cents r.of_) = some r.id := fun r => rfl
    refine Ret.bind (Ret.loop (fun t : Int => t = 0 ∨ t = 1 ∧ cmpI a.id b.id = 0) (fun t => 2 - t.toNat) (.inl rfl) ?_)
    rintro _ (rfl | ⟨rfl, h1⟩)
    · refine Ret.condT rfl (Ret.bind (Ret.val (show ixo [76] 0 = some 76 from rfl) (Ret.bind (Ret.val (g2 a) (Ret.bind (Ret.val (g2 b) (Ret.bind (Ret.val p_cmp ?_))))))))
      by_cases c : cmpI a.id b.id = 0
      · rw [decide_eq_true c]
        exact Ret.condF rfl (Ret.bind (Ret.chk (by omega) (Ret.next ⟨.inr ⟨rfl, c⟩, by decide⟩)))
      · rw [decide_eq_false c]
        exact Ret.condT rfl (Ret.done (Ret.elimR (Ret.ok rfl)))
    · exact Ret.condF rfl (Ret.done (Ret.elimL (Ret.ok h1.symm)))
  rw [h1, h2]
theorem r_ordered1 {x : List Report} (hn : (x.map (·.id)).Nodup) (hl : x.length ≤ 1000000) {Q : List Report → Prop} (h : ∀ out, out.Perm x → out.Pairwise (fun a b => a.id ≤ b.id) → Q out) : Ret (P.account_ordered_74 x [76]) Q := by
  unfold P.account_ordered_74
  have one : ∀ a b, a ∈ x → b ∈ x → a.id = b.id → a = b := fun a b ha hb e => by
    obtain ⟨i, hi⟩ := List.getElem?_of_mem ha
    obtain ⟨j, hj⟩ := List.getElem?_of_mem hb
    have hi' : (x.map (·.id))[i]? = some a.id := by simp [hi]
    have hj' : (x.map (·.id))[j]? = some a.id := by simp [hj, e]
    have : i = j := (List.getElem?_inj (get_lt hi') hn).1 (hi'.trans hj'.symm)
    subst this
    rw [hi] at hj
    exact Option.some.inj hj
  have hok : SortOk x (fun x0_ x1_ => P.account_ordered_api_Report_in1 x0_ x1_ [76]) fun a b => cmpI a.id b.id := by
    refine ⟨fun a b _ _ => p_ord1, ⟨fun a => ?_, fun a b c h1 h2 => ?_, fun a b c h1 h2 => ?_⟩, fun a b ha hb h1 h2 => ?_⟩
    · show decide (cmpI a.1.id a.1.id < 0) = false
      rw [decide_eq_false_iff_not, cmp_neg]; omega
    · have h1 := of_decide_eq_true h1
      have h2 := of_decide_eq_true h2
      refine decide_eq_true ?_
      rw [cmp_neg] at *
      omega
    · have h1 := of_decide_eq_false h1
      have h2 := of_decide_eq_false h2
      refine decide_eq_false ?_
      rw [cmp_neg] at *
      omega
    · rw [cmp_neg] at h1 h2
      exact one a b ha hb (by omega)
  have hex : x.length < 4611686018427387904 ∧ ∃ cf, SortOk x (fun x0_ x1_ => P.account_ordered_api_Report_in1 x0_ x1_ [76]) cf := ⟨by omega, _, hok⟩
  have hs : P.slices_SortFunc_93 x (fun x0_ x1_ => P.account_ordered_api_Report_in1 x0_ x1_ [76]) = some (x.mergeSort fun a b => !decide (hex.2.choose b a < 0)) := by
    unfold P.slices_SortFunc_93
    rw [dif_pos hex]
  refine Ret.bind (Ret.val hs (Ret.ok (h _ (List.mergeSort_perm _ _) ?_)))
  have hsp := hex.2.choose_spec.1
  have hm := List.map_mergeSort (r := fun a b => !decide (hex.2.choose b a < 0)) (s := fun a b => !decide (cmpI b.id a.id < 0)) (f := id) (l := x) fun a ha b hb => by
    have h1 : P.account_ordered_api_Report_in1 b a [76] = some _ := hsp b a hb ha
    rw [p_ord1] at h1
    rw [← Option.some.inj h1]; rfl
  simp only [List.map_id] at hm
  rw [hm]
  have hle : ∀ a b : Report, (!decide (cmpI b.id a.id < 0)) = true ↔ a.id ≤ b.id := fun a b => by
    rw [Bool.not_eq_true', decide_eq_false_iff_not, cmp_neg]
    omega
  refine (List.pairwise_mergeSort (fun a b c h1 h2 => ?_) (fun a b => ?_) x).imp fun h => (hle _ _).1 h
  · rw [hle] at *; omega
  · rw [Bool.or_eq_true, hle, hle]; omega
theorem p_clone {s : List Report} (hl : s.length ≤ 1000000) {Q : List Report → Prop} (h : Q s) : Ret (P.slices_Clone_90 s) Q := by
  have h1 : P.slices_Clone_90 s = some s := by
    unfold P.slices_Clone_90
    have h2 : appo 64 ([] : List Report) s = some s := appo_ok (xs := ([] : List Report)) (by simp; omega) (by simp; omega)
    refine nilq_same (fun h => ?_) ?_
    · subst h; rfl
    · show Option.bind (appo 64 ([] : List Report) s) (fun l7 => some l7) = some s
      rw [h2, bindS]
  exact ⟨s, h1, h⟩
theorem r_ids {L : List Report} (hn : (L.map (·.id)).Nodup) (hl : L.length ≤ 1000000) {Q : List Int → Prop} (h : Q (sid L)) : Ret (P.account_ids L) Q := by
  unfold P.account_ids
  refine Ret.bind (p_clone hl (Ret.bind (r_ordered1 hn hl fun out hp hs => ?_)))
  have hlen := hp.length_eq
  refine Ret.bind (Ret.loop (fun t : List Int × Int => ∃ n : Nat, t.2 = n ∧ n ≤ out.length ∧ t.1 = (out.take n).map (·.id)) (fun t => out.length - t.2.toNat) ⟨0, rfl, Nat.zero_le _, rfl⟩ ?_)
  rintro ⟨X, _⟩ ⟨n, rfl, hn', hX⟩
  dsimp only at hX ⊢
  refine Ret.cond (fun h1 => ?_) fun h1 => ?_
  · have hlt : n < out.length := by have := of_decide_eq_true h1; omega
    refine Ret.bind (Ret.ixo (List.getElem?_eq_getElem hlt) (Ret.bind (Ret.appo ?_ ?_ (Ret.bind (Ret.chk (by omega) (Ret.next ⟨⟨n + 1, by dsimp only; omega, by omega, ?_⟩, by dsimp only; omega⟩))))))
    · rw [hX]; simp; omega
    · rw [hX]; simp; omega
    · dsimp only
      rw [hX, List.take_add_one, List.getElem?_eq_getElem hlt, List.map_append]; rfl
  · have : n = out.length := by have := of_decide_eq_false h1; omega
    subst this
    refine Ret.done (Ret.ok ?_)
    rw [hX, List.take_length, sid_is (L := L) (S := out.map (·.id)) (hp.map _) (List.pairwise_map.2 hs)]
    exact h
theorem p_in1 {r f : Report} {only : Bool} : P.account_told_in1 r f only = some (ag only f r) := by
  unfold P.account_told_in1 ag
  by_cases h : r.cents = f.cents <;> cases only <;> simp [h]
theorem r_told {L : List Report} (hn : (L.map (·.id)).Nodup) (hl : L.length ≤ 1000000) {only : Bool} {Q : Told → Prop} (h : Q (told only L)) : Ret (P.account_told L only) Q := by
  unfold P.account_told
  cases L with
  | nil => exact Ret.condT (by simp) (Ret.ok h)
  | cons f L =>
    refine Ret.condF (decide_eq_false (by simp; omega)) (Ret.bind (Ret.ixo (i := 0) (y := f) rfl (Ret.bind (r_ids hn hl ?_))))
    refine Ret.bind (Ret.loop (fun t : Int × Int × Int => ∃ n : Nat, t.1 = n ∧ n ≤ (f :: L).length ∧ t.2 = if ((f :: L).take n).all (ag only f) then (2, f.cents) else (1, 0)) (fun t => (f :: L).length - t.1.toNat) ⟨0, rfl, Nat.zero_le _, by simp⟩ ?_)
    rintro ⟨_, a, b⟩ ⟨n, rfl, hn', hX⟩
    dsimp only at hX ⊢
    refine Ret.cond (fun h1 => ?_) fun h1 => ?_
    · have hlt : n < (f :: L).length := by have := of_decide_eq_true h1; omega
      refine Ret.bind (Ret.bind (Ret.ixo (List.getElem?_eq_getElem hlt) ?_))
      rw [eta, eta, p_in1, bindS]
      have hst : ((f :: L).take (n + 1)).all (ag only f) = (((f :: L).take n).all (ag only f) && ag only f (f :: L)[n]) := by
        rw [List.take_add_one, List.getElem?_eq_getElem hlt, List.all_append]; simp
      have fin : ∀ y : Int × Int, y = (if ((f :: L).take (n + 1)).all (ag only f) then (2, f.cents) else (1, 0)) → Ret (Option.bind (chk .i64 ((n : Int) + 1)) fun n111 => some (Sum.inl (n111, y.1, y.2) : (Int × Int × Int) ⊕ (Int × Int))) (Nxt (fun s' : Int × Int × Int => (∃ n : Nat, s'.1 = n ∧ n ≤ (f :: L).length ∧ s'.2 = if ((f :: L).take n).all (ag only f) then (2, f.cents) else (1, 0)) ∧ (f :: L).length - s'.1.toNat < (f :: L).length - (n : Int).toNat) fun a => Ret (some (Told.mk a.1 a.2 f.about (sid (f :: L)))) Q) := fun y hy =>
        Ret.bind (Ret.chk (by omega) (Ret.next ⟨⟨n + 1, by dsimp only; omega, by omega, hy⟩, by dsimp only; omega⟩))
      refine Ret.bind (Ret.cond (fun h2 => Ret.ok (Ret.ok (fin (1, 0) ?_))) fun h2 => Ret.ok (Ret.ok (fin (a, b) ?_)))
      · have h2 : ag only f (f :: L)[n] = false := by simpa using h2
        rw [hst, h2, Bool.and_false]; rfl
      · have h2 : ag only f (f :: L)[n] = true := by simpa using h2
        rw [hst, h2, Bool.and_true]; exact hX
    · have : n = (f :: L).length := by have := of_decide_eq_false h1; omega
      subst this
      refine Ret.done (Ret.ok ?_)
      rw [List.take_length] at hX
      rw [told_cons] at h
      split at hX
      · rename_i hc
        rw [if_pos hc] at h
        cases hX; exact h
      · rename_i hc
        rw [if_neg hc] at h
        cases hX; exact h
theorem r_of {F : List Report} (hl : F.length ≤ 1000000) {k : Int} {Q : List Report → Prop} (h : Q (fk F k)) : Ret (P.account_book_of (Book.mk F) k) Q := by
  unfold P.account_book_of
  refine Ret.bind (Ret.loop (fun t : List Report × Int => ∃ n : Nat, t.2 = n ∧ n ≤ F.length ∧ t.1 = fk (F.take n) k) (fun t => F.length - t.2.toNat) ⟨0, rfl, Nat.zero_le _, rfl⟩ ?_)
  rintro ⟨X, _⟩ ⟨n, rfl, hn', hX⟩
  dsimp only at hX ⊢
  refine Ret.cond (fun h1 => ?_) fun h1 => ?_
  · have hlt : n < F.length := by have := of_decide_eq_true h1; omega
    have hXl : X.length ≤ n := by
      rw [hX]
      refine Nat.le_trans (List.length_filter_le _ _) ?_
      rw [List.length_take]; omega
    have hst : fk (F.take (n + 1)) k = fk (F.take n) k ++ if F[n].kind = k then [F[n]] else [] := by
      unfold fk
      rw [List.take_add_one, List.getElem?_eq_getElem hlt, List.filter_append]
      by_cases c : F[n].kind = k <;> simp [c]
    refine Ret.bind (Ret.bind (Ret.ixo (List.getElem?_eq_getElem hlt) (Ret.bind (Ret.cond (fun h2 => Ret.bind (Ret.appo (by simp; omega) (by simp; omega) (Ret.ok (Ret.ok (Ret.bind (Ret.chk (by omega) (Ret.next ⟨⟨n + 1, by dsimp only; omega, by omega, ?_⟩, by dsimp only; omega⟩))))))) fun h2 => Ret.ok (Ret.ok (Ret.bind (Ret.chk (by omega) (Ret.next ⟨⟨n + 1, by dsimp only; omega, by omega, ?_⟩, by dsimp only; omega⟩))))))))
    · dsimp only
      rw [hst, if_pos (of_decide_eq_true h2), hX]
    · dsimp only
      rw [hst, if_neg (of_decide_eq_false h2), hX, List.append_nil]
  · have : n = F.length := by have := of_decide_eq_false h1; omega
    subst this
    refine Ret.done (Ret.ok ?_)
    rw [hX, List.take_length]; exact h
theorem r_once {F : List Report} (hF : FO F) {k : Int} {Q : Told → Prop} (h : Q (told true (fk F k))) : Ret (P.account_book_once (Book.mk F) k) Q := by
  unfold P.account_book_once
  have := hF.len
  have hf := hF.filter fun r => decide (r.kind = k)
  have := hf.len
  exact Ret.bind (r_of (F := F) (by omega) (Ret.bind (r_told hf.nd (by omega) (Ret.ok h))))
end S
end Go.Proofs.YtepjkmoipjeghaaDoor
namespace Go.Proofs.YtepjkmoipjeghaaDoor
open Go Go.Sx
namespace S
theorem r_idx {s : List Report} {f : Report → Option Bool} {g : Report → Bool} (h : ∀ x ∈ s, f x = some (g x)) (hl : s.length ≤ 1000000) {Q : Int → Prop} (h1 : (∀ x ∈ s, g x = false) → Q (-1)) (h2 : ∀ (n : Nat) (hn : n < s.length), g s[n] = true → (∀ x ∈ s.take n, g x = false) → Q n) : Ret (P.slices_IndexFunc_58 s f) Q := by
  unfold P.slices_IndexFunc_58
  refine Ret.bind (Ret.loop (fun t : Int => ∃ n : Nat, t = n ∧ n ≤ s.length ∧ ∀ x ∈ s.take n, g x = false) (fun t => s.length - t.toNat) ⟨0, rfl, Nat.zero_le _, fun x hx => by simp at hx⟩ ?_)
  rintro _ ⟨n, rfl, hn, hp⟩
  refine Ret.cond (fun h3 => ?_) fun h3 => ?_
  · have hlt : n < s.length := by have := of_decide_eq_true h3; omega
    have hy := List.getElem?_eq_getElem hlt
    refine Ret.bind (Ret.ixo hy (Ret.bind (Ret.val (h _ (List.getElem_mem hlt)) ?_)))
    refine Ret.cond (fun h4 => ?_) fun h4 => ?_
    · exact Ret.done (Ret.elimR (Ret.ok (h2 n hlt h4 hp)))
    · refine Ret.bind (Ret.chk (by omega) (Ret.next ⟨⟨n + 1, by omega, by omega, fun x hx => ?_⟩, by omega⟩))
      rcases (take_mem hlt).1 hx with hx | hx
      · exact hp x hx
      · rw [hx]; exact h4
  · have hge : n = s.length := by have := of_decide_eq_false h3; omega
    subst hge
    rw [List.take_length] at hp
    exact Ret.done (Ret.elimL (Ret.ok (h1 hp)))
theorem r_del {s : List Report} {f : Report → Option Bool} {g : Report → Bool} (h : ∀ x ∈ s, f x = some (g x)) (hl : s.length ≤ 1000000) {Q : List Report → Prop} (hQ : Q (s.filter fun x => !g x)) : Ret (P.slices_DeleteFunc_95 s f) Q := by
  unfold P.slices_DeleteFunc_95
  refine Ret.bind (r_idx h hl (fun h1 => ?_) fun n hn h1 h2 => ?_)
  · refine Ret.condT rfl (Ret.ok ?_)
    rw [List.filter_eq_self.2 fun x hx => by rw [h1 x hx]; rfl] at hQ
    exact hQ
  · refine Ret.condF (decide_eq_false (by omega)) (Ret.bind (Ret.chk (by omega) ?_))
    have h0 : s.take n = (s.take (n + 1)).filter fun x => !g x := by
      rw [List.take_add_one, List.getElem?_eq_getElem hn, List.filter_append, List.filter_eq_self.2 fun x hx => by rw [h2 x hx]; rfl]
      simp [h1]
    refine Ret.bind (Ret.loop (fun t : Int × Int × List Report => ∃ i j : Nat, t.1 = i ∧ t.2.1 = j ∧ i ≤ j ∧ j ≤ s.length ∧ t.2.2.length = s.length ∧ t.2.2.drop j = s.drop j ∧ t.2.2.take i = (s.take j).filter fun x => !g x) (fun t => s.length - t.2.1.toNat) ⟨n, n + 1, rfl, rfl, by omega, by omega, rfl, rfl, h0⟩ ?_)
    rintro ⟨_, _, X⟩ ⟨i, j, rfl, rfl, hij, hj, hX, hd, ht⟩
    dsimp only at hX hd ht ⊢
    refine Ret.cond (fun h3 => ?_) fun h3 => ?_
    · have hlt : j < s.length := by have := of_decide_eq_true h3; omega
      have hXj : X[j]? = some s[j] := by
        have := congrArg (fun l : List Report => l[0]?) hd
        simp only [List.getElem?_drop, Nat.add_zero] at this
        rw [this, List.getElem?_eq_getElem hlt]
      have hst : (s.take (j + 1)).filter (fun x => !g x) = (s.take j).filter (fun x => !g x) ++ if g s[j] then [] else [s[j]] := by
        rw [List.take_add_one, List.getElem?_eq_getElem hlt, List.filter_append]
        cases c : g s[j] <;> simp [c]
      have hd' : X.drop (j + 1) = s.drop (j + 1) := by rw [← List.drop_drop, hd, List.drop_drop]
      refine Ret.bind (Ret.bind (Ret.ixo hXj (Ret.bind (Ret.val (h _ (List.getElem_mem hlt)) (Ret.bind ?_)))))
      refine Ret.cond (fun h4 => ?_) fun h4 => ?_
      · have hXi : X[i]? = some (X[i]'(by omega)) := List.getElem?_eq_getElem (by omega)
        refine Ret.bind (Ret.ixo hXi (Ret.bind (Ret.seto (by omega) (Ret.bind (Ret.chk (by omega) (Ret.ok (Ret.ok (Ret.bind (Ret.chk (by omega) (Ret.next ⟨⟨i + 1, j + 1, by dsimp only; omega, by dsimp only; omega, by omega, by omega, (by rw [List.length_set]; exact hX), ?_, ?_⟩, by dsimp only; omega⟩))))))))))
        · rw [List.drop_set_of_lt (by omega)]; exact hd'
        · have h5 : g s[j] = false := by simpa using h4
          rw [hst, h5, List.take_add_one, List.getElem?_set_self (by omega), List.take_set_of_le (by omega), ht]; rfl
      · have h5 : g s[j] = true := by simpa using h4
        refine Ret.ok (Ret.ok (Ret.bind (Ret.chk (by omega) (Ret.next ⟨⟨i, j + 1, rfl, by dsimp only; omega, by omega, by omega, hX, hd', ?_⟩, by dsimp only; omega⟩))))
        rw [hst, h5, ht]; simp
    · have hge : j = s.length := by have := of_decide_eq_false h3; omega
      subst hge
      refine Ret.done ?_
      dsimp only
      rw [List.take_length] at ht
      refine Ret.bind (Ret.val (by unfold cutLo; rw [if_pos ⟨by omega, by omega⟩]) (Ret.bind (Ret.val (by unfold cutHi; rw [if_pos ⟨by omega, by simp; omega⟩]) (Ret.ok ?_))))
      rw [show ((i : Int).toNat) = i from rfl, List.take_append_of_le_length (by rw [List.length_take]; omega), List.take_take, Nat.min_self, ht]
      exact hQ
theorem le_last {L : List Report} (hs : L.Pairwise le) {n : Nat} (hn : n + 1 = L.length) {r : Report} (hr : r ∈ L) : r.about ≤ (L[n]'(by omega)).about := by
  obtain ⟨i, hi⟩ := List.getElem?_of_mem hr
  have hlt := get_lt hi
  obtain rfl : L[i] = r := by rw [List.getElem?_eq_getElem hlt] at hi; exact Option.some.inj hi
  rcases Nat.lt_or_ge i n with h | h
  · have := List.pairwise_iff_getElem.1 hs i n hlt (by omega) h
    unfold le at this; omega
  · have : i = n := by omega
    subst this; exact Int.le_refl _
theorem r_last {F : List Report} (hF : FO F) {k : Int} {Q : Told → Prop} (h : Q (lastT (fk F k))) : Ret (P.account_book_last (Book.mk F) k) Q := by
  unfold P.account_book_last
  have := hF.len
  have hf : FO (fk F k) := hF.filter _
  have := hf.len
  refine Ret.bind (r_of (F := F) (by omega) (Ret.cond (fun h1 => ?_) fun h1 => ?_))
  · have : fk F k = [] := List.eq_nil_of_length_eq_zero (by have := of_decide_eq_true h1; omega)
    rw [this] at h
    exact Ret.ok h
  · have h2 := of_decide_eq_false h1
    obtain ⟨n, hn⟩ : ∃ n, n + 1 = (fk F k).length := ⟨(fk F k).length - 1, by omega⟩
    have hg : (fk F k)[n]? = some ((fk F k)[n]'(by omega)) := List.getElem?_eq_getElem (by omega)
    rw [show ((fk F k).length : Int) - 1 = (n : Int) by omega]
    refine Ret.bind (Ret.chk (by omega) (Ret.bind (Ret.ixo hg (Ret.bind (r_del (g := fun r => decide (r.about < ((fk F k)[n]'(by omega)).about)) (fun x _ => rfl) (by omega) ?_)))))
    have h3 : ((fk F k).filter fun x => !decide (x.about < ((fk F k)[n]'(by omega)).about)) = grp (fk F k) ((fk F k)[n]'(by omega)).about := by
      refine List.filter_congr fun r hr => ?_
      have := le_last hf.s hn hr
      rw [Bool.eq_iff_iff]; simp; omega
    rw [h3]
    have hgF : FO (grp (fk F k) ((fk F k)[n]'(by omega)).about) := hf.filter _
    have := hgF.len
    refine Ret.bind (r_told hgF.nd (by omega) (Ret.ok ?_))
    unfold lastT at h
    rw [List.getLast?_eq_getElem?, show (fk F k).length - 1 = n by omega, hg] at h
    exact h
/-! Days. -/
def dl (L : List Report) : List Int := L.foldl (fun acc r => if r.about ∈ acc then acc else acc ++ [r.about]) []
theorem dl_snoc (L : List Report) (r : Report) : dl (L ++ [r]) = if r.about ∈ dl L then dl L else dl L ++ [r.about] := by
  unfold dl; rw [List.foldl_append]; rfl
theorem dl_go : ∀ (L : List Report) (acc : List Int), acc.Nodup → (L.foldl (fun acc r => if r.about ∈ acc then acc else acc ++ [r.about]) acc).Nodup ∧ (∀ d, d ∈ L.foldl (fun acc r => if r.about ∈ acc then acc else acc ++ [r.about]) acc ↔ d ∈ acc ∨ ∃ r ∈ L, r.about = d) ∧ (L.foldl (fun acc r => if r.about ∈ acc then acc else acc ++ [r.about]) acc).length ≤ acc.length + L.length
  | [], acc, h => ⟨h, fun d => by simp, by simp⟩
  | r :: L, acc, h => by
    rw [List.foldl_cons]
    by_cases c : r.about ∈ acc
    · rw [if_pos c]
      obtain ⟨h1, h2, h3⟩ := dl_go L acc h
      refine ⟨h1, fun d => ?_, by simp; omega⟩
      rw [h2]
      constructor
      · rintro (h | ⟨x, hx, e⟩)
        · exact .inl h
        · exact .inr ⟨x, List.mem_cons_of_mem _ hx, e⟩
      · rintro (h | ⟨x, hx, e⟩)
        · exact .inl h
        · rcases List.mem_cons.1 hx with rfl | hx
          · exact .inl (e ▸ c)
          · exact .inr ⟨x, hx, e⟩
    · rw [if_neg c]
      obtain ⟨h1, h2, h3⟩ := dl_go L (acc ++ [r.about]) (List.nodup_append.2 ⟨h, by simp, fun a ha b hb e => by
        have : b = r.about := by simpa using hb
        exact c (by rw [← this, ← e]; exact ha)⟩)
      refine ⟨h1, fun d => ?_, by simp at h3 ⊢; omega⟩
      rw [h2, List.mem_append, List.mem_singleton]
      constructor
      · rintro ((h | rfl) | ⟨x, hx, e⟩)
        · exact .inl h
        · exact .inr ⟨r, List.mem_cons_self .., rfl⟩
        · exact .inr ⟨x, List.mem_cons_of_mem _ hx, e⟩
      · rintro (h | ⟨x, hx, e⟩)
        · exact .inl (.inl h)
        · rcases List.mem_cons.1 hx with rfl | hx
          · exact .inl (.inr e.symm)
          · exact .inr ⟨x, hx, e⟩
theorem dl_nd (L : List Report) : (dl L).Nodup := (dl_go L [] List.nodup_nil).1
theorem dl_mem {L : List Report} {d : Int} : d ∈ dl L ↔ ∃ r ∈ L, r.about = d := by
  unfold dl; rw [(dl_go L [] List.nodup_nil).2.1]; simp
theorem dl_len (L : List Report) : (dl L).length ≤ L.length := by
  have := (dl_go L [] List.nodup_nil).2.2
  unfold dl; simpa using this
/-! Payments. -/
/-- What a source tells of a day. -/
def sumL (L : List Report) (d s : Int) : Int := ((L.filter fun r => decide (r.about = d) && decide (r.source = s)).map (·.cents)).sum
theorem sumL_snoc (L : List Report) (r : Report) (d s : Int) : sumL (L ++ [r]) d s = sumL L d s + if r.about = d ∧ r.source = s then r.cents else 0 := by
  unfold sumL
  rw [List.filter_append, List.map_append, List.sum_append]
  congr 1
  by_cases c : r.about = d ∧ r.source = s
  · rw [if_pos c]; simp [c.1, c.2]
  · rw [if_neg c]
    have : (decide (r.about = d) && decide (r.source = s)) = false := by
      rw [Bool.eq_false_iff]; intro h; apply c; simpa using h
    simp [this]
theorem sum_bd : ∀ (L : List Report), (∀ r ∈ L, 0 ≤ r.cents ∧ r.cents ≤ 1000000000000) → 0 ≤ (L.map (·.cents)).sum ∧ (L.map (·.cents)).sum ≤ L.length * 1000000000000
  | [], _ => by simp
  | r :: L, h => by
    have h1 := sum_bd L fun x hx => h x (List.mem_cons_of_mem _ hx)
    have h2 := h r (List.mem_cons_self ..)
    simp only [List.map_cons, List.sum_cons, List.length_cons]
    omega
theorem sumL_bd {L : List Report} (h : ∀ r ∈ L, 0 ≤ r.cents ∧ r.cents ≤ 1000000000000) (d s : Int) : 0 ≤ sumL L d s ∧ sumL L d s ≤ L.length * 1000000000000 := by
  have h1 := sum_bd (L.filter fun r => decide (r.about = d) && decide (r.source = s)) fun r hr => h r (List.mem_filter.1 hr).1
  have h2 : (L.filter fun r => decide (r.about = d) && decide (r.source = s)).length ≤ L.length := List.length_filter_le _ _
  unfold sumL
  omega
/-- The least and the greatest of what sources tell of a day. -/
def Pd (L : List Report) (d : Int) (sp : Span) : Prop := (∃ r ∈ grp L d, sumL L d r.source = sp.lo) ∧ (∃ r ∈ grp L d, sumL L d r.source = sp.hi) ∧ ∀ r ∈ grp L d, sp.lo ≤ sumL L d r.source ∧ sumL L d r.source ≤ sp.hi
theorem Pd.uniq {L : List Report} {d : Int} {a b : Span} (h : Pd L d a) (k : Pd L d b) : a = b := by
  obtain ⟨⟨r1, h1, e1⟩, ⟨r2, h2, e2⟩, h3⟩ := h
  obtain ⟨⟨s1, k1, f1⟩, ⟨s2, k2, f2⟩, k3⟩ := k
  have a1 := k3 r1 h1
  have a2 := k3 r2 h2
  have a3 := h3 s1 k1
  have a4 := h3 s2 k2
  cases a; cases b
  simp only [Span.mk.injEq] at *
  omega
open Classical in
noncomputable def pd (L : List Report) (d : Int) : Span := if h : ∃ sp, Pd L d sp then h.choose else ⟨0, 0⟩
theorem pd_is {L : List Report} {d : Int} {sp : Span} (h : Pd L d sp) : pd L d = sp := by
  unfold pd
  rw [dif_pos ⟨sp, h⟩]
  exact (Exists.choose_spec (⟨sp, h⟩ : ∃ sp, Pd L d sp)).uniq h
theorem foldM_inv2 {S β : Type} {f : S → β → Option S} (I : List β → S → Prop) : ∀ (l pre : List β) (s : S), I pre s → (∀ p x q s, l = p ++ x :: q → I (pre ++ p) s → ∃ s', f s x = some s' ∧ I (pre ++ p ++ [x]) s') → ∃ s', l.foldlM f s = some s' ∧ I (pre ++ l) s'
  | [], pre, s, h, _ => ⟨s, rfl, by simpa using h⟩
  | x :: l, pre, s, h, hs => by
    obtain ⟨s1, h1, h2⟩ := hs [] x l s rfl (by simpa using h)
    obtain ⟨s2, h3, h4⟩ := foldM_inv2 I l (pre ++ [x]) s1 (by simpa using h2) fun p y q s e hI => by
      obtain ⟨s', g1, g2⟩ := hs (x :: p) y q s (by rw [e]; rfl) (by simpa using hI)
      exact ⟨s', g1, by simpa using g2⟩
    refine ⟨s2, ?_, by simpa using h4⟩
    rw [List.foldlM_cons, h1]; exact h3
theorem Lists.putX {κ α : Type} [DecidableEq κ] {f : FMap κ α} {l : List (κ × α)} (h : Lists f l) (a : κ) (z : α) : ∃ l', Lists (fput f a z) l' := by
  by_cases c : ∃ x ∈ l, x.1 = a
  · obtain ⟨⟨a', y⟩, hx, rfl⟩ := c
    obtain ⟨j, hj⟩ := List.getElem?_of_mem hx
    exact ⟨_, h.set hj z⟩
  · exact ⟨_, h.push z fun x hx e => c ⟨x, hx, e⟩⟩
/-- The days on which something was paid, with what. -/
def DaysR (L : List Report) (m : FMap Int Span) : Prop := ∀ d sp, m d = some sp ↔ (∃ r ∈ L, r.about = d) ∧ sp = pd L d
theorem DaysR.lists {L : List Report} {m : FMap Int Span} (h : DaysR L m) : Lists m ((dl L).map fun d => (d, pd L d)) := by
  refine ⟨?_, fun d sp => ?_⟩
  · rw [List.map_map]
    exact (List.map_id _).symm ▸ dl_nd L
  · rw [h, List.mem_map]
    constructor
    · rintro ⟨d', hd, e⟩; cases e; exact ⟨dl_mem.1 hd, rfl⟩
    · rintro ⟨hd, rfl⟩; exact ⟨d, dl_mem.2 hd, rfl⟩
/-- What is told by some entries of a day. -/
def PdE (l : List (Payer × Int)) (d : Int) (sp : Span) : Prop := (∃ e ∈ l, e.1.day = d ∧ e.2 = sp.lo) ∧ (∃ e ∈ l, e.1.day = d ∧ e.2 = sp.hi) ∧ ∀ e ∈ l, e.1.day = d → sp.lo ≤ e.2 ∧ e.2 ≤ sp.hi
theorem PdE.ex {l : List (Payer × Int)} {d : Int} {sp : Span} (h : PdE l d sp) : ∃ e ∈ l, e.1.day = d := by
  obtain ⟨⟨e, he, h1, _⟩, _⟩ := h; exact ⟨e, he, h1⟩
theorem r_paid {F : List Report} (hF : FO F) {Q : FMap Int Span → Prop} (h : ∀ m, DaysR (fk F 4) m → Q m) : Ret (P.account_book_paid (Book.mk F)) Q := by
  unfold P.account_book_paid
  have := hF.len
  have hf : FO (fk F 4) := hF.filter _
  have hlen := hf.len
  obtain ⟨L, hL⟩ : ∃ L, fk F 4 = L := ⟨_, rfl⟩
  refine Ret.bind (r_of (F := F) (by omega) ?_)
  rw [hL] at hf hlen h ⊢
  refine Ret.bind (Ret.loop (fun t : Int × FMap Payer Int => ∃ n : Nat, t.1 = n ∧ n ≤ L.length ∧ (∃ l, Lists t.2 l) ∧ ∀ p z, t.2 p = some z ↔ (∃ r ∈ L.take n, r.about = p.day ∧ r.source = p.source) ∧ z = sumL (L.take n) p.day p.source) (fun t => L.length - t.1.toNat) ⟨0, rfl, Nat.zero_le _, ⟨[], Lists.nil⟩, fun p z => by simp [fnone]⟩ ?_)
  rintro ⟨_, m⟩ ⟨n, rfl, hn, ⟨l, hl⟩, hm⟩
  dsimp only at hl hm ⊢
  refine Ret.cond (fun h1 => ?_) fun h1 => ?_
  · have hlt : n < L.length := by have := of_decide_eq_true h1; omega
    have hin : ∀ r ∈ L.take n, 0 ≤ r.cents ∧ r.cents ≤ 1000000000000 := fun r hr => hf.c r (List.mem_of_mem_take hr)
    have hb := sumL_bd hin L[n].about L[n].source
    have hbl : (L.take n).length = n := by rw [List.length_take]; omega
    have hc := hf.c L[n] (List.getElem_mem hlt)
    have hg : (m (Payer.mk L[n].about L[n].source)).getD 0 = sumL (L.take n) L[n].about L[n].source := by
      cases hq : m (Payer.mk L[n].about L[n].source) with
      | some z => exact ((hm _ _).1 hq).2
      | none =>
        have hno : ¬ ∃ r ∈ L.take n, r.about = L[n].about ∧ r.source = L[n].source := fun hx => by
          have := (hm (Payer.mk L[n].about L[n].source) _).2 ⟨hx, rfl⟩
          rw [hq] at this; cases this
        show (0 : Int) = _
        unfold sumL
        rw [List.filter_eq_nil_iff.2 fun r hr h9 => hno ⟨r, hr, by simpa using h9⟩]; rfl
    refine Ret.bind (Ret.ixo (List.getElem?_eq_getElem hlt) (Ret.bind (Ret.bind (Ret.ok ?_))))
    rw [hg]
    refine Ret.bind (Ret.chk (by omega) (Ret.ok (Ret.bind (Ret.chk (by omega) (Ret.next ⟨⟨n + 1, by dsimp only; omega, by omega, Lists.putX hl _ _, fun p z => ?_⟩, by dsimp only; omega⟩)))))
    dsimp only
    have hs := sumL_snoc (L.take n) L[n] p.day p.source
    have ht : L.take (n + 1) = L.take n ++ [L[n]] := by rw [List.take_add_one, List.getElem?_eq_getElem hlt]; rfl
    rw [ht, hs]
    by_cases c : p = Payer.mk L[n].about L[n].source
    · subst c
      simp only [fput, if_true, and_self]
      constructor
      · intro h9
        cases h9
        exact ⟨⟨L[n], List.mem_append_right _ (List.mem_singleton_self _), rfl, rfl⟩, rfl⟩
      · rintro ⟨_, rfl⟩; rfl
    · have c2 : ¬ (L[n].about = p.day ∧ L[n].source = p.source) := fun ⟨h1, h2⟩ => c (by cases p; simp only at h1 h2; rw [h1, h2])
      simp only [fput, if_neg c, if_neg c2, Int.add_zero]
      rw [hm]
      refine and_congr_left fun _ => ?_
      constructor
      · rintro ⟨r, hr, e⟩; exact ⟨r, List.mem_append_left _ hr, e⟩
      · rintro ⟨r, hr, e⟩
        rcases List.mem_append.1 hr with hr | hr
        · exact ⟨r, hr, e⟩
        · have : r = L[n] := by simpa using hr
          rw [this] at e; exact absurd e c2
  · have hge : n = L.length := by have := of_decide_eq_false h1; omega
    subst hge
    rw [List.take_length] at hm
    refine Ret.done (Ret.bind (r_anyM hl (DaysR L) (fun l hl => ?_) (fun s s' hs hs' => ?_) fun m hm => Ret.ok (h m hm)))
    · have hent : ∀ e ∈ l, (∃ r ∈ L, r.about = e.1.day ∧ r.source = e.1.source) ∧ e.2 = sumL L e.1.day e.1.source := fun e he => (hm e.1 e.2).1 ((hl.2 e.1 e.2).1 he)
      obtain ⟨x, h2, h3⟩ := foldM_inv (f := fun (x96 : FMap Int Span) (y97 : Payer × Int) => Option.bind (some ((x96 y97.1.day).getD (Span.mk 0 0))) fun y114 => Option.bind (Option.bind (cond (!((x96 y97.1.day).isSome)) (some (y97.2, y97.2)) (some (y114.lo, y114.hi))) fun (x132, x133) => some (x132, x133)) fun (x134, x135) => some (fput x96 y97.1.day (Span.mk (min x134 y97.2) (max x135 y97.2)))) (fun pre (x : FMap Int Span) => ∀ d, (x d = none → ∀ e ∈ pre, e.1.day ≠ d) ∧ ∀ sp, x d = some sp → PdE pre d sp) l [] fnone (fun d => ⟨fun _ e he => by simp at he, fun sp h => by simp [fnone] at h⟩) (fun pre y x hy hx => by
        have key : ∀ lo hi : Int, PdE (pre ++ [y]) y.1.day (Span.mk lo hi) → ∀ d, (fput x y.1.day (Span.mk lo hi) d = none → ∀ e ∈ pre ++ [y], e.1.day ≠ d) ∧ ∀ sp, fput x y.1.day (Span.mk lo hi) d = some sp → PdE (pre ++ [y]) d sp := fun lo hi hp d => by
          by_cases c : d = y.1.day
          · subst c
            simp only [fput, if_true]
            exact ⟨fun h => (by cases h), fun sp h => (by cases h; exact hp)⟩
          · simp only [fput, if_neg c]
            refine ⟨fun h e he h9 => ?_, fun sp h => ?_⟩
            · rcases List.mem_append.1 he with he | he
              · exact (hx d).1 h e he h9
              · have : e = y := by simpa using he
                subst this; exact c h9.symm
            · obtain ⟨⟨e1, g1, g2⟩, ⟨e2, g4, g5⟩, g7⟩ := (hx d).2 sp h
              refine ⟨⟨e1, List.mem_append_left _ g1, g2⟩, ⟨e2, List.mem_append_left _ g4, g5⟩, fun e he h9 => ?_⟩
              rcases List.mem_append.1 he with he | he
              · exact g7 e he h9
              · have : e = y := by simpa using he
                subst this; exact absurd h9.symm c
        cases hq : x y.1.day with
        | none =>
          have hno := (hx _).1 hq
          refine ⟨_, by rw [bindS]; rfl, key _ _ ?_⟩
          refine ⟨⟨y, by simp, rfl, by simp⟩, ⟨y, by simp, rfl, by simp⟩, fun e he h9 => ?_⟩
          rcases List.mem_append.1 he with he | he
          · exact absurd h9 (hno e he)
          · have : e = y := by simpa using he
            subst this; simp
        | some s =>
          obtain ⟨⟨e1, g1, g2, g3⟩, ⟨e2, g4, g5, g6⟩, g7⟩ := (hx _).2 s hq
          refine ⟨_, rfl, key _ _ ⟨?_, ?_, fun e he h9 => ?_⟩⟩
          · by_cases c : s.lo ≤ y.2
            · exact ⟨e1, List.mem_append_left _ g1, g2, by dsimp only [Option.getD]; rw [g3]; omega⟩
            · exact ⟨y, by simp, rfl, by dsimp only [Option.getD]; omega⟩
          · by_cases c : y.2 ≤ s.hi
            · exact ⟨e2, List.mem_append_left _ g4, g5, by dsimp only [Option.getD]; rw [g6]; omega⟩
            · exact ⟨y, by simp, rfl, by dsimp only [Option.getD]; omega⟩
          · dsimp only [Option.getD]
            rcases List.mem_append.1 he with he | he
            · have := g7 e he h9; omega
            · have : e = y := by simpa using he
              subst this; omega)
      refine ⟨x, h2, ?_⟩
      have toPd : ∀ {d : Int} {sp : Span}, PdE l d sp → Pd L d sp := fun {d sp} ⟨⟨e1, g1, g2, g3⟩, ⟨e2, g4, g5, g6⟩, g7⟩ => by
        obtain ⟨⟨r1, q1, q2, q3⟩, q4⟩ := hent e1 g1
        obtain ⟨⟨r2, p1, p2, p3⟩, p4⟩ := hent e2 g4
        refine ⟨⟨r1, List.mem_filter.2 ⟨q1, decide_eq_true (q2.trans g2)⟩, by rw [← g3, q4, g2, q3]⟩, ⟨r2, List.mem_filter.2 ⟨p1, decide_eq_true (p2.trans g5)⟩, by rw [← g6, p4, g5, p3]⟩, fun r hr => ?_⟩
        obtain ⟨h4, h5⟩ := List.mem_filter.1 hr
        have h5 := of_decide_eq_true h5
        exact g7 (Payer.mk d r.source, sumL L d r.source) ((hl.2 _ _).2 ((hm _ _).2 ⟨⟨r, h4, h5, rfl⟩, rfl⟩)) rfl
      rw [List.nil_append] at h3
      intro d sp
      constructor
      · intro h4
        have h5 := (h3 d).2 sp h4
        obtain ⟨e, he, h6⟩ := h5.ex
        obtain ⟨⟨r, q1, q2, _⟩, _⟩ := hent e he
        exact ⟨⟨r, q1, q2.trans h6⟩, (pd_is (toPd h5)).symm⟩
      · rintro ⟨⟨r, hr, rfl⟩, rfl⟩
        cases h4 : x r.about with
        | none => exact absurd rfl ((h3 _).1 h4 (Payer.mk r.about r.source, sumL L r.about r.source) ((hl.2 _ _).2 ((hm _ _).2 ⟨⟨r, hr, rfl, rfl⟩, rfl⟩)))
        | some sp => rw [pd_is (toPd ((h3 _).2 sp h4))]
    · refine funext fun d => ?_
      cases h1 : s d with
      | none =>
        cases h2 : s' d with
        | none => rfl
        | some sp => rw [(hs d sp).2 ((hs' d sp).1 h2)] at h1; cases h1
      | some sp => rw [(hs' d sp).2 ((hs d sp).1 h1)]
end S
end Go.Proofs.YtepjkmoipjeghaaDoor
namespace Go.Proofs.YtepjkmoipjeghaaDoor
open Go Go.Sx
namespace S
theorem perm_sum {l l' : List Int} (h : l.Perm l') : l.sum = l'.sum := by
  induction h with
  | nil => rfl
  | cons x _ ih => simp only [List.sum_cons, ih]
  | swap x y l => simp only [List.sum_cons]; omega
  | trans _ _ h1 h2 => exact h1.trans h2
theorem most_le (k : Int) : most k ≤ 1000000000000 := by
  unfold most
  repeat' split
  all_goals omega
section
variable {K : List Report} (hK : Ok K)
include hK
theorem fix_vals {o : Report} (ho : o ∈ K) : (fix K o).kind = o.kind ∧ (fix K o).account = o.account ∧ (fix K o).source = o.source ∧ (fix K o).id = o.id ∧ (0 ≤ (fix K o).cents ∧ (fix K o).cents ≤ most o.kind) ∧ (0 ≤ (fix K o).about ∧ (fix K o).about ≤ 100000) := by
  have hv := hK.v o ho
  unfold V at hv
  unfold fix
  cases hb : best K o with
  | none => exact ⟨rfl, rfl, rfl, rfl, hv.2.2.2.2.2.2.2.1, hv.2.2.2.2.2.2.1⟩
  | some c =>
    unfold best at hb
    split at hb
    · rename_i h
      have hs := h.choose_spec
      rw [Option.some.inj hb] at hs
      have hc := hK.v c hs.1
      unfold V at hc
      exact ⟨rfl, rfl, rfl, rfl, hs.2.1.2.2.1, hc.2.2.2.2.2.2.1⟩
    · cases hb
theorem T_el {r : Report} (h : r ∈ T K) : ∃ o ∈ K, o.kind ≤ 7 ∧ WdR K o.id none ∧ r = fix K o := by
  classical
  unfold T at h
  obtain ⟨o, ho, rfl⟩ := List.mem_map.1 h
  rw [List.mem_filter] at ho
  have h9 := of_decide_eq_true ho.2
  exact ⟨o, ho.1, h9.1, h9.2, rfl⟩
theorem T_FO {out : List Report} (hp : out.Perm (T K)) (hs : out.Pairwise le) : FO out := by
  have hv : ∀ r ∈ out, (1 ≤ r.kind ∧ r.kind ≤ 7) ∧ (0 ≤ r.cents ∧ r.cents ≤ 1000000000000) ∧ (0 ≤ r.about ∧ r.about ≤ 100000) := fun r hr => by
    obtain ⟨o, ho, h7, _, rfl⟩ := T_el hK (hp.mem_iff.1 hr)
    obtain ⟨h1, h2, h3, h4, h5, h6⟩ := fix_vals hK ho
    have := most_le o.kind
    have hv := (hK.v o ho).1
    exact ⟨by omega, by omega, h6⟩
  exact ⟨hs, (hp.map _).nodup_iff.2 (T_nd hK), by rw [hp.length_eq]; exact T_len hK, fun r hr => (hv r hr).1, fun r hr => (hv r hr).2.1, fun r hr => (hv r hr).2.2⟩
end
theorem r_sumDays {L : List Report} (hL : FO L) {m : FMap Int Span} (hm : DaysR L m) {Q : Int × Int → Prop} (h : Q (((dl L).map fun d => (pd L d).lo).sum, ((dl L).map fun d => (pd L d).hi).sum)) : Ret (anyM (S := Int × Int) (fun (x357, x358) (y359 : Int × Span) => Option.bind (chk .i64 (x357 + y359.2.lo)) fun n378 => Option.bind (chk .i64 (x358 + y359.2.hi)) fun n382 => some (n378, n382)) m (0, 0)) Q := by
  have hl0 := hm.lists
  have hlen := hL.len
  refine r_anyM hl0 (fun s => s = (((dl L).map fun d => (pd L d).lo).sum, ((dl L).map fun d => (pd L d).hi).sum)) (fun l hl => ?_) (fun s s' h1 h2 => h1.trans h2.symm) (fun s hs => by rw [hs]; exact h)
  have hp : l.Perm ((dl L).map fun d => (d, pd L d)) := by
    refine (List.perm_ext_iff_of_nodup (nd_of hl.1) (nd_of hl0.1)).2 fun e => ?_
    obtain ⟨a, y⟩ := e
    rw [hl.2, hl0.2]
  have hb : ∀ e ∈ l, (0 ≤ e.2.lo ∧ e.2.lo ≤ 60000000000000) ∧ (0 ≤ e.2.hi ∧ e.2.hi ≤ 60000000000000) := fun e he => by
    obtain ⟨d, sp⟩ := e
    obtain ⟨⟨r, hr, rfl⟩, h2⟩ := (hm d sp).1 ((hl.2 _ _).1 he)
    dsimp only
    by_cases c : ∃ sp, Pd L r.about sp
    · obtain ⟨sp, hsp⟩ := c
      rw [pd_is hsp] at h2
      rw [h2]
      obtain ⟨⟨r1, _, e1⟩, ⟨r2, _, e2⟩, _⟩ := hsp
      have b1 := sumL_bd hL.c r.about r1.source
      have b2 := sumL_bd hL.c r.about r2.source
      omega
    · have : pd L r.about = ⟨0, 0⟩ := by unfold pd; rw [dif_neg c]
      rw [h2, this]; exact ⟨by decide, by decide⟩
  have hll : l.length ≤ 60 := by
    rw [hp.length_eq, List.length_map]
    exact Nat.le_trans (dl_len L) hlen
  obtain ⟨s, h1, h2⟩ := foldM_inv2 (f := fun (x : Int × Int) (y359 : Int × Span) => match x with | (x357, x358) => Option.bind (chk .i64 (x357 + y359.2.lo)) fun n378 => Option.bind (chk .i64 (x358 + y359.2.hi)) fun n382 => some (n378, n382)) (fun pre (x : Int × Int) => x = ((pre.map (·.2.lo)).sum, (pre.map (·.2.hi)).sum) ∧ (0 ≤ x.1 ∧ x.1 ≤ pre.length * 60000000000000) ∧ (0 ≤ x.2 ∧ x.2 ≤ pre.length * 60000000000000)) l [] (0, 0) ⟨rfl, by simp, by simp⟩ (fun p y q x e hx => by
    obtain ⟨hx1, hx2, hx3⟩ := hx
    have hy := hb y (by rw [e]; simp)
    have hpl : p.length ≤ 60 := by rw [e] at hll; simp at hll; omega
    rw [List.nil_append] at hx1 hx2 hx3
    refine ⟨(x.1 + y.2.lo, x.2 + y.2.hi), ?_, ?_, ?_, ?_⟩
    · show Option.bind (chk .i64 (x.1 + y.2.lo)) _ = _
      rw [chk_i64 (by omega), bindS, chk_i64 (by omega), bindS]
    · rw [hx1]; simp
    · simp; omega
    · simp; omega)
  refine ⟨s, h1, ?_⟩
  rw [h2.1, List.nil_append, perm_sum (hp.map (·.2.lo)), perm_sum (hp.map (·.2.hi)), List.map_map, List.map_map]
  rfl
noncomputable def payF (F : List Report) : Span := ⟨((dl (fk F 4)).map fun d => (pd (fk F 4) d).lo).sum, ((dl (fk F 4)).map fun d => (pd (fk F 4) d).hi).sum⟩
noncomputable def stF (F : List Report) : State :=
  ⟨told true (fk F 1), lastT (fk F 2), lastT (fk F 3), lastT (fk F 5), told true (fk F 6), told true (fk F 7), payF F,
    if (told true (fk F 7)).known ≠ 0 then 4 else if (told true (fk F 6)).known ≠ 0 then 3 else if (lastT (fk F 5)).known = 1 ∨ 0 < (lastT (fk F 5)).cents then 2 else if 0 < F.length then 1 else 0⟩
def t0 : Told := ⟨0, 0, 0, []⟩
def st0 : State := ⟨t0, t0, t0, t0, t0, t0, ⟨0, 0⟩, 0⟩
def ofA (a day : Int) (r : Report) : Bool := decide (r.account = a) && decide (r.about ≤ day)
section
variable {l : List Report} (hin : ∀ r ∈ l, InR r) {known : Int}
include hin
theorem r_kept {a day : Int} (c : chkE l = 0) {K : List Report} (hk : Kn l known K) {Q : Book → Prop} (h : ∀ out : List Report, out.Perm (T K) → out.Pairwise le → Q (Book.mk (out.filter (ofA a day)))) : Ret (P.account_kept l a day known) Q := by
  obtain ⟨h1, h2, h3⟩ := chk0 c
  have hK := ok_of c hk
  unfold P.account_kept
  refine Ret.bind (r_open h2 h1 h3 hk fun d hd => Ret.bind (Ret.ok (Ret.bind (r_facts hK hd fun out hp hs => ?_))))
  have hlen := hp.length_eq
  have := T_len hK
  rw [if_pos]
  · exact Ret.ok (h out hp hs)
  refine ⟨by omega, fun r hr => ?_⟩
  obtain ⟨o, ho, h7, _, rfl⟩ := T_el hK (hp.mem_iff.1 hr)
  obtain ⟨g1, g2, g3, g4, g5, g6⟩ := fix_vals hK ho
  have hi := hin o ((hk.mem o).1 ho).1
  have hm := most_le o.kind
  unfold InR at hi ⊢
  have e1 : (fix K o).made = o.made := by unfold fix; split <;> rfl
  have e2 : (fix K o).of_ = o.of_ := by unfold fix; split <;> rfl
  rw [g1, g2, g3, g4, e1, e2]
  refine ⟨hi.1, hi.2.1, hi.2.2.1, hi.2.2.2.1, ?_, hi.2.2.2.2.2.1, ?_, hi.2.2.2.2.2.2.2⟩
  · rw [InK.i64]; omega
  · rw [InK.i64]; omega
/-- What both say of a state. -/
def StS (l : List Report) (a day known : Int) (z : State × Int) : Prop :=
  (chkE l ≠ 0 ∧ z = (st0, chkE l)) ∨ (chkE l = 0 ∧ (inB 0 999999 a && (inB 0 100000 day && inB 0 100000 known)) = false ∧ z = (st0, 2)) ∨
  (chkE l = 0 ∧ (inB 0 999999 a && (inB 0 100000 day && inB 0 100000 known)) = true ∧ ∃ K out : List Report, P.ref03_Known l known = some K ∧ Kn l known K ∧ out.Perm (T K) ∧ out.Pairwise le ∧ z = (stF (out.filter (ofA a day)), 0))
theorem r_aState {a day : Int} {Q : State × Int → Prop} (h : ∀ z, StS l a day known z → Q z) : Ret (P.account_State l a day known) Q := by
  unfold P.account_State
  refine Ret.bind (r_acheck hin ?_)
  by_cases c : chkE l = 0
  · refine Ret.condF (by simp [c]) ?_
    have hcx : Option.bind (P.account_in 0 999999 ([a] : List Int)) (fun z19 => cond (!z19) (some true) (Option.bind (P.account_in 0 100000 ([day, known] : List Int)) fun z29 => some (!z29))) = some (!(inB 0 999999 a && (inB 0 100000 day && inB 0 100000 known))) := by
      rw [p_in (by simp), bindS, p_in (by simp), bindS]
      simp only [List.all_cons, List.all_nil, Bool.and_true]
      cases inB 0 999999 a <;> rfl
    rw [hcx, bindS]
    cases ci : (inB 0 999999 a && (inB 0 100000 day && inB 0 100000 known)) with
    | false => exact Ret.condT rfl (Ret.ok (h _ (.inr (.inl ⟨c, ci, rfl⟩))))
    | true =>
      refine Ret.condF rfl ?_
      obtain ⟨K, hk, hk2⟩ := known_is (known := known) c
      refine Ret.bind (r_kept hin c hk2 fun out hp hs => ?_)
      have hF0 := T_FO (ok_of c hk2) hp hs
      obtain ⟨F, hFe⟩ : ∃ F, out.filter (ofA a day) = F := ⟨_, rfl⟩
      have hF : FO F := hFe ▸ hF0.filter _
      rw [hFe]
      refine Ret.bind (r_once hF (Ret.bind (r_last hF (Ret.bind (r_last hF (Ret.bind (r_last hF (Ret.bind (r_once hF (Ret.bind (r_once hF (Ret.bind (r_paid hF fun m hm => Ret.bind (r_sumDays (hF.filter _) hm ?_))))))))))))))
      have key : stF F = ⟨told true (fk F 1), lastT (fk F 2), lastT (fk F 3), lastT (fk F 5), told true (fk F 6), told true (fk F 7), payF F, _⟩ := rfl
      have fin : ∀ x, x = (stF F).is_ → Ret (some ((State.mk (told true (fk F 1)) (lastT (fk F 2)) (lastT (fk F 3)) (lastT (fk F 5)) (told true (fk F 6)) (told true (fk F 7)) (payF F) x), (0 : Int))) Q := fun x hx => by
        refine Ret.ok (h _ (.inr (.inr ⟨c, ci, K, out, hk, hk2, hp, hs, ?_⟩)))
        rw [hFe, hx]; rfl
      unfold stF at fin
      dsimp only at fin
      dsimp only
      refine Ret.bind (Ret.bind ?_)
      by_cases c1 : (told true (fk F 7)).known = 0
      · rw [decide_eq_true c1]
        refine Ret.condF rfl (Ret.bind ?_)
        rw [if_neg (by simp [c1])] at fin
        by_cases c2 : (told true (fk F 6)).known = 0
        · rw [decide_eq_true c2]
          rw [if_neg (by simp [c2])] at fin
          have hc3 : (cond (decide ((lastT (fk F 5)).known = 1)) (some true) (some (decide (0 < (lastT (fk F 5)).cents)))) = some (decide ((lastT (fk F 5)).known = 1 ∨ 0 < (lastT (fk F 5)).cents)) := by
            by_cases c4 : (lastT (fk F 5)).known = 1 <;> simp [c4]
          refine Ret.condF rfl (Ret.bind (Ret.val hc3 (Ret.bind ?_)))
          by_cases c3 : (lastT (fk F 5)).known = 1 ∨ 0 < (lastT (fk F 5)).cents
          · rw [if_pos c3] at fin
            exact Ret.condT (decide_eq_true c3) (Ret.ok (Ret.ok (Ret.ok (Ret.ok (fin _ rfl)))))
          · rw [if_neg c3] at fin
            refine Ret.condF (decide_eq_false c3) (Ret.bind ?_)
            by_cases c5 : 0 < F.length
            · rw [if_pos c5] at fin
              exact Ret.condT (decide_eq_true (by omega)) (Ret.ok (Ret.ok (Ret.ok (Ret.ok (Ret.ok (fin _ rfl))))))
            · rw [if_neg c5] at fin
              exact Ret.condF (decide_eq_false (by omega)) (Ret.ok (Ret.ok (Ret.ok (Ret.ok (Ret.ok (fin _ rfl))))))
        · rw [decide_eq_false c2]
          rw [if_pos c2] at fin
          exact Ret.condT rfl (Ret.ok (Ret.ok (Ret.ok (fin _ rfl))))
      · rw [decide_eq_false c1]
        rw [if_pos c1] at fin
        exact Ret.condT rfl (Ret.ok (Ret.ok (fin _ rfl)))
  · exact Ret.condT (by simp [c]) (Ret.ok (h _ (.inl ⟨c, rfl⟩)))
end
end S
end Go.Proofs.YtepjkmoipjeghaaDoor
namespace Go.Proofs.YtepjkmoipjeghaaDoor
open Go Go.Sx
namespace S
noncomputable def clash (F : List Report) (k : Int) (only : Bool) : List Report → List Clash
  | [] => []
  | f :: r => if (if k = 4 then (pd (fk F 4) f.about).lo ≠ (pd (fk F 4) f.about).hi else (told only (f :: r)).known = 1) then [⟨k, f.about, sid (f :: r)⟩] else []
def onlyK (k : Int) : Bool := decide (k = 1 ∨ k = 6 ∨ k = 7)
noncomputable def clK (F : List Report) (k : Int) : List Clash := if onlyK k then clash F k true (fk F k) else (dl (fk F k)).flatMap fun d => clash F k false (grp (fk F k) d)
def ks (n : Nat) : List Int := (List.range n).map fun i : Nat => (i : Int) + 1
noncomputable def clF (F : List Report) : List Clash := (ks 7).flatMap (clK F)
theorem ks_succ (n : Nat) : ks (n + 1) = ks n ++ [(n : Int) + 1] := by unfold ks; rw [List.range_succ, List.map_append]; rfl
theorem ite_len {α : Type} {p : Prop} [Decidable p] {x : α} : (if p then [x] else []).length ≤ 1 := by split <;> simp
theorem clash_len (F : List Report) (k : Int) (o : Bool) (g : List Report) : (clash F k o g).length ≤ 1 := by
  cases g with
  | nil => simp [clash]
  | cons f r => exact ite_len
theorem flat_len {α β : Type} {f : α → List β} {c : Nat} (h : ∀ x, (f x).length ≤ c) : ∀ l : List α, (l.flatMap f).length ≤ l.length * c
  | [] => by simp
  | x :: l => by
    have := flat_len h l
    have := h x
    rw [List.flatMap_cons, List.length_append, List.length_cons, Nat.add_mul, Nat.one_mul]; omega
theorem clK_len {F : List Report} (hF : FO F) (k : Int) : (clK F k).length ≤ 60 := by
  have h1 : FO (fk F k) := hF.filter _
  have h2 := h1.len
  unfold clK
  split
  · have := clash_len F k true (fk F k); omega
  · have := flat_len (fun d => clash_len F k false (grp (fk F k) d)) (dl (fk F k))
    have := dl_len (fk F k)
    omega
theorem dl_same {d : Int} : ∀ (g : List Report) (acc : List Int), (∀ r ∈ g, r.about = d) → d ∈ acc → g.foldl (fun acc r => if r.about ∈ acc then acc else acc ++ [r.about]) acc = acc
  | [], _, _, _ => rfl
  | r :: g, acc, h, hd => by
    have e := h r (List.mem_cons_self ..)
    rw [List.foldl_cons, if_pos (by rw [e]; exact hd)]
    exact dl_same g acc (fun x hx => h x (List.mem_cons_of_mem _ hx)) hd
theorem dl_grp {pre g : List Report} {d : Int} (h0 : g ≠ []) (h : ∀ r ∈ g, r.about = d) (hd : ∀ r ∈ pre, r.about ≠ d) : dl (pre ++ g) = dl pre ++ [d] := by
  cases g with
  | nil => exact absurd rfl h0
  | cons f r =>
    have e := h f (List.mem_cons_self ..)
    have hn : ¬ d ∈ dl pre := fun hm => by
      obtain ⟨r, hr, hrd⟩ := dl_mem.1 hm
      exact hd r hr hrd
    show (pre ++ f :: r).foldl _ [] = _
    rw [List.foldl_append, List.foldl_cons]
    show r.foldl _ (if f.about ∈ dl pre then dl pre else dl pre ++ [f.about]) = _
    rw [e, if_neg hn]
    exact dl_same r _ (fun x hx => h x (List.mem_cons_of_mem _ hx)) (by simp)
theorem le_head {f : Report} {r : List Report} (hs : (f :: r).Pairwise le) : ∀ x ∈ f :: r, f.about ≤ x.about := fun x hx => by
  rcases List.mem_cons.1 hx with rfl | hx
  · exact Int.le_refl _
  · have := (List.pairwise_cons.1 hs).1 x hx
    unfold le at this; omega
/-- The group at a suffix's head. -/
theorem grp_take {X : List Report} {f : Report} {r : List Report} (hX : X = f :: r) (hs : X.Pairwise le) {n : Nat} (hn : n < X.length) (h1 : f.about < X[n].about) (h2 : ∀ x ∈ X.take n, ¬ f.about < x.about) : X.take n = grp X f.about ∧ ∀ x ∈ X.drop n, f.about < x.about := by
  have hge := le_head (hX ▸ hs)
  have hd : ∀ x ∈ X.drop n, f.about < x.about := fun x hx => by
    rw [List.drop_eq_getElem_cons hn] at hx
    rcases List.mem_cons.1 hx with rfl | hx
    · exact h1
    · have hs2 : (X.drop n).Pairwise le := hs.sublist (List.drop_sublist _ _)
      rw [List.drop_eq_getElem_cons hn] at hs2
      have := (List.pairwise_cons.1 hs2).1 x hx
      unfold le at this; omega
  refine ⟨?_, hd⟩
  unfold grp
  conv => rhs; rw [← List.take_append_drop n X, List.filter_append]
  rw [List.filter_eq_self.2 fun x hx => ?_, List.filter_eq_nil_iff.2 fun x hx => ?_, List.append_nil]
  · have := hd x hx
    simp; omega
  · have h3 := h2 x hx
    have h4 := hge x (by rw [← hX]; exact List.mem_of_mem_take hx)
    exact decide_eq_true (by omega)
theorem grp_all {X : List Report} {f : Report} {r : List Report} (hX : X = f :: r) (hs : X.Pairwise le) (h2 : ∀ x ∈ X, ¬ f.about < x.about) : X = grp X f.about := by
  have hge := le_head (hX ▸ hs)
  unfold grp
  rw [List.filter_eq_self.2 fun x hx => ?_]
  have h3 := h2 x hx
  have h4 := hge x (by rw [← hX]; exact hx)
  exact decide_eq_true (by omega)
section
variable {F : List Report} (hF : FO F) {m : FMap Int Span} (hm : DaysR (fk F 4) m)
include hF hm
/-- The clashes of a kind. -/
theorem r_clK {k : Int} (hk : 1 ≤ k ∧ k ≤ 7) {out0 : List Clash} (h0 : out0.length ≤ 420) {R : Type} {C : (List Clash) × (List Report) → Option R} {Q : R → Prop} (h : Ret (C (out0 ++ clK F k, [])) Q) :
    Ret (Option.bind (loopM (S := (List Clash) × (List Report)) (R := ((List Clash) × (List Report))) (fun (x74, x75) => cond (decide (0 < (x75.length : Int))) (Option.bind (Option.bind (P.slices_IndexFunc_58 x75 (fun x0_ => P.account_Clashes_in1 x0_ x75)) fun z77 => Option.bind (cond (decide (0 < z77)) (some (!onlyK k)) (some false)) fun x84 => Option.bind (cond x84 (some z77) (some (x75.length : Int))) fun x86 => some x86) fun x87 => Option.bind (ixo x75 0) fun y88 => Option.bind (cutHi x75 x87) fun l104 => Option.bind (P.account_told l104 (onlyK k)) fun z105 => Option.bind (Option.bind (cond (decide (k = 4)) (Option.bind (some ((m y88.about).getD (Span.mk 0 0))) fun y116 => Option.bind (some ((m y88.about).getD (Span.mk 0 0))) fun y123 => some (!decide (y116.lo = y123.hi))) (some (decide (z105.known = 1)))) fun x130 => some x130) fun x131 => Option.bind (Option.bind (cond x131 (Option.bind (cutHi x75 x87) fun l135 => Option.bind (P.account_ids l135) fun z136 => Option.bind (appo 40 x74 ([(Clash.mk k y88.about z136)] : List Clash)) fun l151 => some l151) (some x74)) fun x156 => some x156) fun x157 => Option.bind (cutLo x75 x87) fun l160 => some (.inl (x157, l160))) (some (.inr (x74, x75)))) (out0, fk F k)) C) Q := by
  have hL : FO (fk F k) := hF.filter _
  have hLl := hL.len
  obtain ⟨L, hLe⟩ : ∃ L, fk F k = L := ⟨_, rfl⟩
  have hm4 : ∀ x ∈ L, k = 4 → (m x.about).getD ⟨0, 0⟩ = pd (fk F 4) x.about := fun x hx hk4 => by
    rw [← hLe, hk4] at hx
    rw [(hm x.about _).2 ⟨⟨x, hx, rfl⟩, rfl⟩]; rfl
  unfold clK at h
  rw [hLe] at hL hLl h ⊢
  refine Ret.bind (Ret.loop (fun t : List Clash × List Report => ∃ pre, L = pre ++ t.2 ∧ (∀ p ∈ pre, ∀ x ∈ t.2, p.about < x.about) ∧ (onlyK k = true → pre = [] ∧ t.1 = out0 ∨ t.2 = [] ∧ t.1 = out0 ++ clash F k true L) ∧ (onlyK k = false → t.1 = out0 ++ (dl pre).flatMap fun d => clash F k false (grp L d))) (fun t => t.2.length) ⟨[], rfl, (fun p hp => by cases hp), (fun _ => .inl ⟨rfl, rfl⟩), fun _ => by simp [dl]⟩ ?_)
  rintro ⟨out, X⟩ ⟨pre, hpre, hlt, ho1, ho2⟩
  dsimp only at hpre hlt ho1 ho2 ⊢
  cases hX : X with
  | nil =>
    subst hX
    refine Ret.condF rfl (Ret.done ?_)
    rw [List.append_nil] at hpre
    subst hpre
    cases c : onlyK k with
    | true =>
      rw [if_pos c] at h
      rcases ho1 c with ⟨h1, h2⟩ | ⟨_, h2⟩
      · subst h1
        rw [h2]
        simp only [clash, List.append_nil] at h
        exact h
      · rw [h2]; exact h
    | false =>
      rw [if_neg (by rw [c]; decide)] at h
      rw [ho2 c]; exact h
  | cons f r =>
    have hXF : FO X := hL.sub (hpre ▸ List.sublist_append_right _ _)
    have hXl := hXF.len
    have hXL : ∀ x ∈ X, x ∈ L := fun x hx => by rw [hpre]; exact List.mem_append_right _ hx
    have hfL := hXL f (by rw [hX]; exact List.mem_cons_self ..)
    have hnd : ∀ p ∈ pre, p.about ≠ f.about := fun p hp e => by
      have := hlt p hp f (by rw [hX]; exact List.mem_cons_self ..)
      omega
    have hgL : grp L f.about = grp X f.about := by
      unfold grp
      rw [hpre, List.filter_append, List.filter_eq_nil_iff.2 fun p hp => by simpa using hnd p hp, List.nil_append]
    -- what is reckoned of a group g, which is X's first n
    have step : ∀ n : Nat, 0 < n → n ≤ X.length → ∀ g, X.take n = g →
        (onlyK k = true → n = X.length) → (onlyK k = false → g = grp X f.about ∧ ∀ x ∈ X.drop n, f.about < x.about) →
        Ret (Option.bind (ixo X 0) fun y88 => Option.bind (cutHi X (n : Int)) fun l104 => Option.bind (P.account_told l104 (onlyK k)) fun z105 => Option.bind (Option.bind (cond (decide (k = 4)) (Option.bind (some ((m y88.about).getD (Span.mk 0 0))) fun y116 => Option.bind (some ((m y88.about).getD (Span.mk 0 0))) fun y123 => some (!decide (y116.lo = y123.hi))) (some (decide (z105.known = 1)))) fun x130 => some x130) fun x131 => Option.bind (Option.bind (cond x131 (Option.bind (cutHi X (n : Int)) fun l135 => Option.bind (P.account_ids l135) fun z136 => Option.bind (appo 40 out ([(Clash.mk k y88.about z136)] : List Clash)) fun l151 => some l151) (some out)) fun x156 => some x156) fun x157 => Option.bind (cutLo X (n : Int)) fun l160 => some (Sum.inl (x157, l160) : (List Clash × List Report) ⊕ (List Clash × List Report))) (Nxt (fun s' : List Clash × List Report => (∃ pre, L = pre ++ s'.2 ∧ (∀ p ∈ pre, ∀ x ∈ s'.2, p.about < x.about) ∧ (onlyK k = true → pre = [] ∧ s'.1 = out0 ∨ s'.2 = [] ∧ s'.1 = out0 ++ clash F k true L) ∧ (onlyK k = false → s'.1 = out0 ++ (dl pre).flatMap fun d => clash F k false (grp L d))) ∧ s'.2.length < X.length) fun a => Ret (C a) Q) := by
      intro n hn0 hn g hg hon hof
      have hgF : FO g := hXF.sub (hg ▸ List.take_sublist _ _)
      have hgl := hgF.len
      obtain ⟨r', hr'⟩ : ∃ r', g = f :: r' := by
        obtain ⟨n', rfl⟩ : ∃ n', n = n' + 1 := ⟨n - 1, by omega⟩
        exact ⟨r.take n', by rw [← hg, hX]; rfl⟩
      have hcut : cutHi X (n : Int) = some g := by unfold cutHi; rw [if_pos ⟨by omega, by omega⟩, ← hg]; rfl
      have hcutL : cutLo X (n : Int) = some (X.drop n) := by unfold cutLo; rw [if_pos ⟨by omega, by omega⟩]; rfl
      refine Ret.bind (Ret.val (show ixo X 0 = some f by rw [hX]; rfl) (Ret.bind (Ret.val hcut (Ret.bind (r_told hgF.nd (by omega) (Ret.bind (Ret.bind ?_)))))))
      have hbool : (cond (decide (k = 4)) (Option.bind (some ((m f.about).getD (Span.mk 0 0))) fun y116 => Option.bind (some ((m f.about).getD (Span.mk 0 0))) fun y123 => some (!decide (y116.lo = y123.hi))) (some (decide ((told (onlyK k) g).known = 1)))) = some (decide (if k = 4 then (pd (fk F 4) f.about).lo ≠ (pd (fk F 4) f.about).hi else (told (onlyK k) g).known = 1)) := by
        by_cases c : k = 4
        · rw [decide_eq_true c]
          simp only [if_pos c]
          rw [hm4 f hfL c]
          simp
        · rw [decide_eq_false c]
          simp only [if_neg c]
          rfl
      have hcl : clash F k (onlyK k) g = if (if k = 4 then (pd (fk F 4) f.about).lo ≠ (pd (fk F 4) f.about).hi else (told (onlyK k) g).known = 1) then [⟨k, f.about, sid g⟩] else [] := by rw [hr']; rfl
      have holen : out.length ≤ 480 := by
        cases c : onlyK k with
        | true =>
          rcases ho1 c with ⟨_, h2⟩ | ⟨_, h2⟩
          · rw [h2]; omega
          · rw [h2, List.length_append]
            have := clash_len F k true L; omega
        | false =>
          rw [ho2 c, List.length_append]
          have h1 := flat_len (fun d => clash_len F k false (grp L d)) (dl pre)
          have h2 := dl_len pre
          have h3 : pre.length ≤ L.length := by rw [hpre]; simp
          omega
      refine Ret.val hbool (Ret.ok (Ret.bind (Ret.bind ?_)))
      have fin : ∀ x, x = out ++ clash F k (onlyK k) g → Ret (Option.bind (cutLo X (n : Int)) fun l160 => some (Sum.inl (x, l160) : (List Clash × List Report) ⊕ (List Clash × List Report))) (Nxt (fun s' : List Clash × List Report => (∃ pre, L = pre ++ s'.2 ∧ (∀ p ∈ pre, ∀ x ∈ s'.2, p.about < x.about) ∧ (onlyK k = true → pre = [] ∧ s'.1 = out0 ∨ s'.2 = [] ∧ s'.1 = out0 ++ clash F k true L) ∧ (onlyK k = false → s'.1 = out0 ++ (dl pre).flatMap fun d => clash F k false (grp L d))) ∧ s'.2.length < X.length) fun a => Ret (C a) Q) := fun x hx => by
        refine Ret.bind (Ret.val hcutL (Ret.next ⟨⟨pre ++ g, ?_, fun p hp y hy => ?_, fun c => .inr ?_, fun c => ?_⟩, ?_⟩))
        · rw [List.append_assoc, ← hg, List.take_append_drop]; exact hpre
        · dsimp only at hy
          rcases List.mem_append.1 hp with hp | hp
          · exact hlt p hp y (List.mem_of_mem_drop hy)
          · cases c : onlyK k with
            | true =>
              rw [hon c, List.drop_length] at hy; cases hy
            | false =>
              rw [(hof c).1] at hp
              have h1 := of_decide_eq_true (List.mem_filter.1 hp).2
              have h2 := (hof c).2 y hy
              omega
        · have e := hon c
          refine ⟨by dsimp only; rw [e, List.drop_length], ?_⟩
          rcases ho1 c with ⟨h1, h2⟩ | ⟨h1, _⟩
          · dsimp only
            have : g = L := by rw [← hg, e, List.take_length, hpre, h1, List.nil_append]
            rw [hx, h2, c, this]
          · rw [h1] at hX; cases hX
        · dsimp only
          have h1 := (hof c).1
          rw [hx, ho2 c, c, dl_grp (d := f.about) (by rw [hr']; exact List.cons_ne_nil _ _) (fun y hy => by rw [h1] at hy; exact of_decide_eq_true (List.mem_filter.1 hy).2) hnd, List.flatMap_append, ← List.append_assoc]
          simp [hgL, ← h1]
        · simp; omega
      refine Ret.cond (fun c => ?_) fun c => ?_
      · refine Ret.bind (Ret.val hcut (Ret.bind (r_ids hgF.nd (by omega) (Ret.bind (Ret.appo (by simp; omega) (by simp; omega) (Ret.ok (Ret.ok (fin _ ?_))))))))
        rw [hcl, if_pos (of_decide_eq_true c)]
      · refine Ret.ok (Ret.ok (fin _ ?_))
        rw [hcl, if_neg (of_decide_eq_false c), List.append_nil]
    have hx0 : 0 < X.length := by rw [hX]; simp
    rw [← hX]
    refine Ret.condT (decide_eq_true (by omega)) (Ret.bind (Ret.bind (r_idx (g := fun x => decide (f.about < x.about)) (fun x _ => by rw [hX]; rfl) (by omega) (fun h1 => ?_) fun n hn h1 h2 => ?_)))
    · refine Ret.bind (Ret.condF rfl (Ret.ok (Ret.bind (Ret.condF rfl (Ret.ok (Ret.ok ?_))))))
      refine step X.length hx0 (Nat.le_refl _) X List.take_length (fun _ => rfl) fun _ => ⟨grp_all hX hXF.s fun x hx h9 => ?_, fun x hx => ?_⟩
      · have := h1 x hx
        rw [decide_eq_true h9] at this; cases this
      · rw [List.drop_length] at hx; cases hx
    · have h3 : ∀ x ∈ X.take n, ¬ f.about < x.about := fun x hx h9 => by
        have := h2 x hx
        rw [decide_eq_true h9] at this; cases this
      have h1' := of_decide_eq_true h1
      have hn0 : 0 < n := by
        rcases Nat.eq_zero_or_pos n with rfl | hp
        · exfalso
          have : X[0] = f := by simp [hX]
          rw [this] at h1'; omega
        · exact hp
      refine Ret.bind (Ret.condT (decide_eq_true (by omega)) (Ret.ok (Ret.bind ?_)))
      cases c : onlyK k with
      | true =>
        refine Ret.condF rfl (Ret.ok (Ret.ok ?_))
        have := step X.length hx0 (Nat.le_refl _) X List.take_length (fun _ => rfl) (fun c' => by rw [c] at c'; cases c')
        rw [c] at this
        exact this
      | false =>
        refine Ret.condT rfl (Ret.ok (Ret.ok ?_))
        have := step n hn0 (by omega) _ rfl (fun c' => by rw [c] at c'; cases c') (fun _ => grp_take hX hXF.s hn h1' h3)
        rw [c] at this
        exact this
end
end S
end Go.Proofs.YtepjkmoipjeghaaDoor
namespace Go.Proofs.YtepjkmoipjeghaaDoor
open Go Go.Sx
namespace S
section
variable {l : List Report} (hin : ∀ r ∈ l, InR r) {known : Int}
include hin
/-- What both say of clashes. -/
def StC (l : List Report) (a known : Int) (z : List Clash × Int) : Prop :=
  (chkE l ≠ 0 ∧ z = ([], chkE l)) ∨ (chkE l = 0 ∧ (inB 0 999999 a && inB 0 100000 known) = false ∧ z = ([], 2)) ∨
  (chkE l = 0 ∧ (inB 0 999999 a && inB 0 100000 known) = true ∧ ∃ K out : List Report, P.ref03_Known l known = some K ∧ Kn l known K ∧ out.Perm (T K) ∧ out.Pairwise le ∧ z = (clF (out.filter (ofA a 100000)), 0))
theorem r_aClashes {a : Int} {Q : List Clash × Int → Prop} (h : ∀ z, StC l a known z → Q z) : Ret (P.account_Clashes l a known) Q := by
  unfold P.account_Clashes
  refine Ret.bind (r_acheck hin ?_)
  by_cases c : chkE l = 0
  · refine Ret.condF (by simp [c]) ?_
    have hcx : Option.bind (P.account_in 0 999999 ([a] : List Int)) (fun z12 => cond (!z12) (some true) (Option.bind (P.account_in 0 100000 ([known] : List Int)) fun z22 => some (!z22))) = some (!(inB 0 999999 a && inB 0 100000 known)) := by
      rw [p_in (by simp), bindS, p_in (by simp), bindS]
      simp only [List.all_cons, List.all_nil, Bool.and_true]
      cases inB 0 999999 a <;> rfl
    rw [hcx, bindS]
    cases ci : (inB 0 999999 a && inB 0 100000 known) with
    | false => exact Ret.condT rfl (Ret.ok (h _ (.inr (.inl ⟨c, ci, rfl⟩))))
    | true =>
      refine Ret.condF rfl ?_
      obtain ⟨K, hk, hk2⟩ := known_is (known := known) c
      refine Ret.bind (r_kept hin c hk2 fun out hp hs => ?_)
      have hF0 := T_FO (ok_of c hk2) hp hs
      obtain ⟨F, hFe⟩ : ∃ F, out.filter (ofA a 100000) = F := ⟨_, rfl⟩
      have hF : FO F := hFe ▸ hF0.filter _
      have hFl := hF.len
      rw [hFe]
      refine Ret.bind (r_paid hF fun m hm => Ret.bind (Ret.loop (fun t : List Clash × Int => ∃ n : Nat, t.2 = n ∧ n ≤ 7 ∧ t.1 = (ks n).flatMap (clK F)) (fun t => 7 - t.2.toNat) ⟨0, rfl, Nat.zero_le _, rfl⟩ ?_))
      rintro ⟨x, _⟩ ⟨n, rfl, hn, hx⟩
      dsimp only at hx ⊢
      refine Ret.cond (fun h1 => ?_) fun h1 => ?_
      · have hlt : n < 7 := by have := of_decide_eq_true h1; omega
        have hxl : x.length ≤ 420 := by
          have := flat_len (fun k => clK_len hF k) (ks n)
          have hkl : (ks n).length = n := by simp [ks]
          rw [hx]; rw [hkl] at this; omega
        have hu8 : chk .u8 ((n : Int) + 1) = some ((n : Int) + 1) := chk_in (InK.u8.2 (by omega))
        refine Ret.bind (Ret.chk (by omega) (Ret.bind (Ret.val hu8 (Ret.bind (r_of (F := F) (by omega) ?_)))))
        have hon : (cond (decide ((n : Int) + 1 = 1)) (some true) (cond (decide ((n : Int) + 1 = 6)) (some true) (some (decide ((n : Int) + 1 = 7))))) = some (onlyK ((n : Int) + 1)) := by
          unfold onlyK
          by_cases c1 : (n : Int) + 1 = 1 <;> by_cases c2 : (n : Int) + 1 = 6 <;> simp [c1, c2]
        rw [hon, bindS]
        refine r_clK hF hm (by omega) hxl (Ret.bind (Ret.chk (by omega) (Ret.next ⟨⟨n + 1, by dsimp only; omega, by omega, ?_⟩, by dsimp only; omega⟩)))
        dsimp only
        rw [ks_succ, List.flatMap_append, hx]; simp
      · have hge : n = 7 := by have := of_decide_eq_false h1; omega
        subst hge
        refine Ret.done (Ret.ok (h _ (.inr (.inr ⟨c, ci, K, out, hk, hk2, hp, hs, ?_⟩))))
        rw [hx, hFe]; rfl
  · exact Ret.condT (by simp [c]) (Ret.ok (h _ (.inl ⟨c, rfl⟩)))
end
/-! The reference. -/
end S
end Go.Proofs.YtepjkmoipjeghaaDoor
namespace Go.Proofs.YtepjkmoipjeghaaDoor
open Go Go.Sx
namespace S
theorem clash_cons {F : List Report} {k : Int} {o : Bool} {f : Report} {r : List Report} : clash F k o (f :: r) = if (if k = 4 then (pd (fk F 4) f.about).lo ≠ (pd (fk F 4) f.about).hi else (told o (f :: r)).known = 1) then [⟨k, f.about, sid (f :: r)⟩] else [] := rfl
end S
end Go.Proofs.YtepjkmoipjeghaaDoor
namespace Go.Proofs.YtepjkmoipjeghaaDoor
open Go Go.Sx
namespace S
theorem r_sameI {a : List Int} (hl : a.length ≤ 1000000) : P.ref03_SameInts a a = some true := by
  apply Ret.yes
  unfold P.ref03_SameInts
  refine Ret.condF (by simp) (Ret.bind (Ret.loop (fun t : Int => ∃ n : Nat, t = n ∧ n ≤ a.length) (fun t => a.length - t.toNat) ⟨0, rfl, Nat.zero_le _⟩ ?_))
  rintro _ ⟨n, rfl, hn⟩
  refine Ret.cond (fun h1 => ?_) fun h1 => ?_
  · have hlt : n < a.length := by have := of_decide_eq_true h1; omega
    have g := List.getElem?_eq_getElem hlt
    exact Ret.bind (Ret.ixo g (Ret.bind (Ret.ixo g (Ret.condF (by simp) (Ret.bind (Ret.chk (by omega) (Ret.next ⟨⟨n + 1, by omega, by omega⟩, by omega⟩)))))))
  · exact Ret.done (Ret.elimL (Ret.ok rfl))
theorem r_sameT {a : Told} (hl : a.by_.length ≤ 1000000) : P.ref03_SameTold a a = some true := by
  unfold P.ref03_SameTold
  rw [r_sameI hl]
  simp
/-- A state's lists of Ids are no longer than reports may be. -/
def Few (s : State) : Prop := s.opened.by_.length ≤ 1000000 ∧ s.limit.by_.length ≤ 1000000 ∧ s.owed.by_.length ≤ 1000000 ∧ s.late.by_.length ≤ 1000000 ∧ s.default.by_.length ≤ 1000000 ∧ s.closed.by_.length ≤ 1000000
theorem r_sameS {a : State} (h : Few a) : P.ref03_SameState a a = some true := by
  obtain ⟨h1, h2, h3, h4, h5, h6⟩ := h
  unfold P.ref03_SameState
  simp only [etaT]
  rw [r_sameT h1, r_sameT h2, r_sameT h3, r_sameT h4, r_sameT h5, r_sameT h6]
  simp
theorem r_sameC {a : List Clash} (hl : a.length ≤ 1000000) (hb : ∀ x ∈ a, x.by_.length ≤ 1000000) : P.ref03_SameClashes a a = some true := by
  apply Ret.yes
  unfold P.ref03_SameClashes
  refine Ret.condF (by simp) (Ret.bind (Ret.loop (fun t : Int => ∃ n : Nat, t = n ∧ n ≤ a.length) (fun t => a.length - t.toNat) ⟨0, rfl, Nat.zero_le _⟩ ?_))
  rintro _ ⟨n, rfl, hn⟩
  refine Ret.cond (fun h1 => ?_) fun h1 => ?_
  · have hlt : n < a.length := by have := of_decide_eq_true h1; omega
    have g := List.getElem?_eq_getElem hlt
    refine Ret.bind (Ret.bind (Ret.ixo g (Ret.bind (Ret.ixo g ?_))))
    refine Ret.condF (by simp) (Ret.bind (Ret.ixo g (Ret.bind (Ret.ixo g ?_))))
    refine Ret.condF (by simp) (Ret.bind (Ret.ixo g (Ret.bind (Ret.ixo g ?_))))
    exact Ret.bind (Ret.val (r_sameI (hb _ (List.getElem_mem hlt))) (Ret.ok (Ret.condF rfl (Ret.bind (Ret.chk (by omega) (Ret.next ⟨⟨n + 1, by omega, by omega⟩, by omega⟩))))))
  · exact Ret.done (Ret.elimL (Ret.ok rfl))
theorem mem_ite1 {α : Type} {p : Prop} [Decidable p] {x y : α} (h : x ∈ if p then [y] else []) : x = y := by
  split at h
  · simpa using h
  · cases h
theorem clash_by {F : List Report} {k : Int} {o : Bool} {g : List Report} (hg : g.length ≤ 60) : ∀ x ∈ clash F k o g, x.by_.length ≤ 60 := fun x hx => by
  cases g with
  | nil => cases hx
  | cons f r =>
    rw [clash_cons] at hx
    rw [mem_ite1 hx]; show (sid (f :: r)).length ≤ 60
    rw [sid_len]; exact hg
theorem few_cl {F : List Report} (hF : FO F) : (clF F).length ≤ 420 ∧ ∀ x ∈ clF F, x.by_.length ≤ 60 := by
  refine ⟨?_, fun x hx => ?_⟩
  · have := flat_len (fun k => clK_len hF k) (ks 7)
    have hkl : (ks 7).length = 7 := by simp [ks]
    rw [hkl] at this; exact this
  · unfold clF at hx
    obtain ⟨k, _, hx⟩ := List.mem_flatMap.1 hx
    have hk : FO (fk F k) := hF.filter _
    unfold clK at hx
    split at hx
    · exact clash_by hk.len x hx
    · obtain ⟨d, _, hx⟩ := List.mem_flatMap.1 hx
      exact clash_by (hk.filter _).len x hx
end S
end Go.Proofs.YtepjkmoipjeghaaDoor
namespace Go.Proofs.YtepjkmoipjeghaaDoor
open Go Go.Sx
namespace S
instance (a b : Report) : Decidable (le a b) := inferInstanceAs (Decidable (_ ∨ _))
theorem ids_one {K : List Report} (nd : (K.map (·.id)).Nodup) {a b : Report} (ha : a ∈ K) (hb : b ∈ K) (e : a.id = b.id) : a = b := by
  obtain ⟨i, hi⟩ := List.getElem?_of_mem ha
  obtain ⟨j, hj⟩ := List.getElem?_of_mem hb
  have hi' : (K.map (·.id))[i]? = some a.id := by simp [hi]
  have hj' : (K.map (·.id))[j]? = some b.id := by simp [hj]
  have hij : i = j := by
    have h1 := get_lt hi'
    rw [e] at hi'
    exact (List.getElem?_inj h1 nd).1 (hi'.trans hj'.symm)
  rw [hij, hj] at hi
  exact (Option.some.inj hi).symm
/-- What was known, without an order. -/
structure Kw (l : List Report) (known : Int) (K : List Report) : Prop where
  mem : ∀ r, r ∈ K ↔ r ∈ l ∧ r.made ≤ known
  ok : Ok K
theorem Kw.perm {l : List Report} {known : Int} {K K' : List Report} (h : Kw l known K) (h' : Kw l known K') : K.Perm K' :=
  (List.perm_ext_iff_of_nodup (nd_of h.ok.nd) (nd_of h'.ok.nd)).2 fun r => (h.mem r).trans (h'.mem r).symm
/-- The facts that stand. -/
def Fc (l : List Report) (known : Int) (F : List Report) : Prop := ∃ K, Kw l known K ∧ F.Perm (T K) ∧ F.Pairwise le
theorem Fc.uniq {l l' : List Report} {known : Int} {F F' : List Report} (h : Fc l known F) (h' : Fc l' known F') (e : ∀ r, r ∈ l ∧ r.made ≤ known ↔ r ∈ l' ∧ r.made ≤ known) : F = F' := by
  obtain ⟨K, hk, hp, hs⟩ := h
  obtain ⟨K', hk', hp', hs'⟩ := h'
  have hk2 : Kw l known K' := ⟨fun r => (hk'.mem r).trans (e r).symm, hk'.ok⟩
  have hpp : F.Perm F' := hp.trans ((T_perm hk.ok hk'.ok (hk.perm hk2)).trans hp'.symm)
  exact two_one hpp hs hs' ((hp.map _).nodup_iff.2 (T_nd hk.ok))
theorem Fc.fo {l : List Report} {known : Int} {F : List Report} (h : Fc l known F) : FO F := by
  obtain ⟨K, hk, hp, hs⟩ := h
  exact T_FO hk.ok hp hs
section
variable {l : List Report} (hin : ∀ r ∈ l, InR r) (h0 : chkE l = 0) {known : Int}
include hin h0
omit hin in
theorem kw_of {K : List Report} (hk : Kn l known K) : Kw l known K := ⟨hk.mem, ok_of h0 hk⟩
theorem r_Standing1 (hi : inB 0 100000 known = true) {Q : List Report × Int → Prop} (h : ∀ F, Fc l known F → Q (F, 0)) : Ret (P.account_Standing l known) Q :=
  r_aStanding hin fun z hz => by
    rcases hz with ⟨c, _⟩ | ⟨_, c, _⟩ | ⟨_, _, K, hk, hp, hs, e⟩
    · exact absurd h0 c
    · rw [hi] at c; cases c
    · obtain ⟨F, n⟩ := z
      dsimp only at hp hs e
      rw [e]; exact h F ⟨K, kw_of h0 hk, hp, hs⟩
theorem r_State1 {a day : Int} (hi : (inB 0 999999 a && (inB 0 100000 day && inB 0 100000 known)) = true) {Q : State × Int → Prop} (h : ∀ F, Fc l known F → Q (stF (F.filter (ofA a day)), 0)) : Ret (P.account_State l a day known) Q :=
  r_aState hin fun z hz => by
    rcases hz with ⟨c, _⟩ | ⟨_, c, _⟩ | ⟨_, _, K, F, _, hk, hp, hs, rfl⟩
    · exact absurd h0 c
    · rw [hi] at c; cases c
    · exact h F ⟨K, kw_of h0 hk, hp, hs⟩
theorem r_Clashes1 {a : Int} (hi : (inB 0 999999 a && inB 0 100000 known) = true) {Q : List Clash × Int → Prop} (h : ∀ F, Fc l known F → Q (clF (F.filter (ofA a 100000)), 0)) : Ret (P.account_Clashes l a known) Q :=
  r_aClashes hin fun z hz => by
    rcases hz with ⟨c, _⟩ | ⟨_, c, _⟩ | ⟨_, _, K, F, _, hk, hp, hs, rfl⟩
    · exact absurd h0 c
    · rw [hi] at c; cases c
    · exact h F ⟨K, kw_of h0 hk, hp, hs⟩
theorem r_Fate1 {n : Int} (hi : inB 0 100000 known = true) {Q : Int × Int × Int → Prop} (h : ∀ K, Kw l known K → Q (ftOf K n)) : Ret (P.account_Fate l n known) Q :=
  r_aFate hin fun z hz => by
    rcases hz with ⟨c, _⟩ | ⟨_, c, _⟩ | ⟨_, _, K, _, hk, rfl⟩
    · exact absurd h0 c
    · rw [hi] at c; cases c
    · exact h K (kw_of h0 hk)
end
theorem take_snoc {α : Type} {l : List α} {n : Nat} (h : n < l.length) : l.take (n + 1) = l.take n ++ [l[n]] := by
  rw [List.take_add_one, List.getElem?_eq_getElem h]; rfl
theorem latest_ex {p : Report → Prop} : ∀ l : List Report, ∃ z, Latest p l z := by
  intro l
  classical
  have : ∀ n, n ≤ l.length → ∃ z, Latest p (l.take n) z := by
    intro n
    induction n with
    | zero => intro _; exact ⟨none, fun r hr => by simp at hr⟩
    | succ n ih =>
      intro hn
      obtain ⟨z, hz⟩ := ih (by omega)
      have hlt : n < l.length := hn
      rw [take_snoc hlt]
      obtain ⟨h1, h2, h3⟩ := hz.push (l[n]'hlt)
      by_cases hp : p (l[n]'hlt)
      · cases z with
        | none => exact ⟨_, h2 hp (.inl rfl)⟩
        | some y =>
          by_cases hy : y.made < (l[n]'hlt).made ∨ y.made = (l[n]'hlt).made ∧ y.id < (l[n]'hlt).id
          · exact ⟨_, h2 hp (.inr ⟨y, rfl, hy⟩)⟩
          · exact ⟨_, h3 hp y rfl hy⟩
      · exact ⟨_, h1 hp⟩
  have h := this l.length (Nat.le_refl _)
  rwa [List.take_length] at h
theorem wd_ex (K : List Report) (i : Int) : ∃ z, WdR K i z := by
  classical
  have : ∀ n, n ≤ K.length → ∃ z, Least (Wd K i) (K.take n) z := by
    intro n
    induction n with
    | zero => intro _; exact ⟨none, fun r hr => by simp at hr⟩
    | succ n ih =>
      intro hn
      obtain ⟨z, hz⟩ := ih (by omega)
      have hlt : n < K.length := hn
      rw [take_snoc hlt]
      obtain ⟨h1, h2, h3⟩ := hz.push (K[n]'hlt)
      by_cases hp : Wd K i (K[n]'hlt)
      · cases z with
        | none => exact ⟨_, h2 hp (.inl rfl)⟩
        | some y =>
          by_cases hy : (K[n]'hlt).id < y
          · exact ⟨_, h2 hp (.inr ⟨y, rfl, hy⟩)⟩
          · exact ⟨_, h3 hp y rfl (by omega)⟩
      · exact ⟨_, h1 hp⟩
  have h := this K.length (Nat.le_refl _)
  rw [List.take_length] at h
  exact h
/-! Of two that hold the same. -/
section
variable {K K' : List Report} (hK : Ok K) (hK' : Ok K') (hp : K.Perm K')
include hK hK' hp
theorem best_pm (o : Report) : best K o = best K' o := by
  obtain ⟨z, hz⟩ := latest_ex (p := Co K o) K
  rw [best_is hK hz, best_is hK' (Latest.congr hz fun s => and_congr hp.mem_iff (Co.pm hp o s))]
omit hK hK' in
theorem wd_pm (i : Int) : wd K i = wd K' i := by
  obtain ⟨z, hz⟩ := wd_ex K i
  rw [wd_is hz, wd_is (WdR.pm hp hz)]
theorem atI_pm (i : Int) : atI K i = atI K' i := by
  by_cases h : ∃ r ∈ K, r.id = i
  · obtain ⟨r, hr, rfl⟩ := h
    rw [atI_some hK hr, atI_some hK' (hp.mem_iff.1 hr)]
  · rw [atI_none hK fun r hr e => h ⟨r, hr, e⟩, atI_none hK' fun r hr e => h ⟨r, hp.mem_iff.2 hr, e⟩]
theorem ftOf_pm (i : Int) : ftOf K i = ftOf K' i := by
  unfold ftOf
  rw [atI_pm hK hK' hp i]
  cases atI K' i with
  | none => rfl
  | some r =>
    dsimp only
    have e : (∃ o, Aim K r o ∧ o.kind ≠ 9) ↔ ∃ o, Aim K' r o ∧ o.kind ≠ 9 := exists_congr fun o => and_congr_left fun _ => Aim.pm hp r o
    by_cases h9 : r.kind = 9
    · rw [if_pos h9, if_pos h9]
      by_cases ha : ∃ o, Aim K r o ∧ o.kind ≠ 9
      · rw [if_pos ha, if_pos (e.1 ha)]
      · rw [if_neg ha, if_neg (mt e.2 ha)]
    · rw [if_neg h9, if_neg h9]
      simp only [wd_pm hp, best_pm hK hK' hp, hp.mem_iff]
end
/-! Reckoned. -/
def aimsB (K : List Report) (r : Report) : Bool := K.any fun o => decide (o.id = r.of_) && (decide (o.source = r.source) && (decide (o.account = r.account) && !decide (o.kind = 9)))
def wdB (K : List Report) (i : Int) (r : Report) : Bool := decide (r.kind = 9) && (decide (r.of_ = i) && aimsB K r)
theorem wdB_iff {K : List Report} {i : Int} {r : Report} (hr : r ∈ K) : wdB K i r = true ↔ Wd K i r := by
  unfold wdB aimsB Wd Aim
  simp only [Bool.and_eq_true, decide_eq_true_eq, List.any_eq_true, Bool.not_eq_true', decide_eq_false_iff_not]
  constructor
  · rintro ⟨h1, h2, o, ho, h3, h4, h5, h6⟩; exact ⟨hr, h1, h2, o, ⟨ho, h3, h4, h5⟩, h6⟩
  · rintro ⟨_, h1, h2, o, ⟨ho, h3, h4, h5⟩, h6⟩; exact ⟨h1, h2, o, ho, h3, h4, h5, h6⟩
def goneB (K : List Report) (i : Int) : Bool := K.any (wdB K i)
theorem goneB_iff {K : List Report} {i : Int} : goneB K i = false ↔ WdR K i none := by
  unfold goneB WdR Least
  rw [List.any_eq_false]
  constructor
  · intro h r hr hw; exact h r hr ((wdB_iff hr).2 hw)
  · intro h r hr hw; exact h r hr ((wdB_iff hr).1 hw)
def coB (K : List Report) (o r : Report) : Bool := decide (r.kind = 8) && (decide (o.id = r.of_) && (decide (o.source = r.source) && (decide (o.account = r.account) && (decide (0 ≤ r.cents) && (decide (r.cents ≤ most o.kind) && !goneB K r.id)))))
theorem coB_iff {K : List Report} {o r : Report} (ho : o ∈ K) : coB K o r = true ↔ Co K o r := by
  unfold coB Co Aim
  simp only [Bool.and_eq_true, decide_eq_true_eq, Bool.not_eq_true', goneB_iff]
  constructor
  · rintro ⟨h1, h2, h3, h4, h5, h6, h7⟩; exact ⟨h1, ⟨ho, h2, h3, h4⟩, ⟨h5, h6⟩, h7⟩
  · rintro ⟨h1, ⟨_, h2, h3, h4⟩, ⟨h5, h6⟩, h7⟩; exact ⟨h1, h2, h3, h4, h5, h6, h7⟩
def bestB (K : List Report) (o : Report) : Option Report := K.find? fun c => coB K o c && K.all fun s => !coB K o s || decide (s.made < c.made ∨ s.made = c.made ∧ s.id ≤ c.id)
theorem best_B {K : List Report} (hK : Ok K) {o : Report} (ho : o ∈ K) : best K o = bestB K o := by
  obtain ⟨z, hz⟩ := latest_ex (p := Co K o) K
  rw [best_is hK hz]
  unfold bestB
  cases z with
  | none =>
    symm
    rw [List.find?_eq_none]
    intro c hc h
    rw [Bool.and_eq_true] at h
    exact hz c hc ((coB_iff ho).1 h.1)
  | some r =>
    have hq : ∀ c ∈ K, (coB K o c && K.all fun s => !coB K o s || decide (s.made < c.made ∨ s.made = c.made ∧ s.id ≤ c.id)) = true → c = r := fun c hc h => by
      rw [Bool.and_eq_true, List.all_eq_true] at h
      refine Option.some.inj (Latest.uniq hK (a := some c) (b := some r) ⟨hc, (coB_iff ho).1 h.1, fun s hs hp => ?_⟩ hz)
      have h2 := h.2 s hs
      rw [(coB_iff ho).2 hp] at h2
      simpa using h2
    have hr : (coB K o r && K.all fun s => !coB K o s || decide (s.made < r.made ∨ s.made = r.made ∧ s.id ≤ r.id)) = true := by
      rw [Bool.and_eq_true, List.all_eq_true]
      refine ⟨(coB_iff ho).2 hz.2.1, fun s hs => ?_⟩
      cases hc : coB K o s with
      | false => rfl
      | true => simpa using hz.2.2 s hs ((coB_iff ho).1 hc)
    cases hf : K.find? (fun c => coB K o c && K.all fun s => !coB K o s || decide (s.made < c.made ∨ s.made = c.made ∧ s.id ≤ c.id)) with
    | none => exact absurd hr (List.find?_eq_none.1 hf r hz.1)
    | some c => rw [hq c (List.mem_of_find?_eq_some hf) (List.find?_some (p := fun c => coB K o c && K.all fun s => !coB K o s || decide (s.made < c.made ∨ s.made = c.made ∧ s.id ≤ c.id)) hf)]
def fixB (K : List Report) (o : Report) : Report := match bestB K o with
  | none => o
  | some c => Report.mk o.id o.source o.account o.made c.about o.kind c.cents o.of_
def TB (K : List Report) : List Report := (K.filter fun o => decide (o.kind ≤ 7) && !goneB K o.id).map (fixB K)
theorem T_B {K : List Report} (hK : Ok K) : T K = TB K := by
  classical
  unfold T TB
  have h1 : (K.filter fun o => decide (o.kind ≤ 7 ∧ WdR K o.id none)) = K.filter fun o => decide (o.kind ≤ 7) && !goneB K o.id := by
    refine List.filter_congr fun o ho => ?_
    rw [Bool.eq_iff_iff]
    simp only [Bool.and_eq_true, decide_eq_true_eq, Bool.not_eq_true', goneB_iff]
  have h2 : ∀ o ∈ K.filter (fun o => decide (o.kind ≤ 7) && !goneB K o.id), fix K o = fixB K o := fun o ho => by
    unfold fix fixB; rw [best_B hK (List.mem_filter.1 ho).1]; cases bestB K o <;> rfl
  rw [← List.map_congr_left h2, ← h1]
theorem fc_B {l : List Report} {known : Int} (hv : ∀ r ∈ l, V r) (nd : (l.map (·.id)).Nodup) (hl : l.length ≤ 60) (hs : (TB (l.filter fun r => decide (r.made ≤ known))).Pairwise le) : Fc l known (TB (l.filter fun r => decide (r.made ≤ known))) := by
  have hK : Ok (l.filter fun r => decide (r.made ≤ known)) := ⟨fun r hr => hv r (List.mem_filter.1 hr).1, (List.filter_sublist.map _).nodup nd, Nat.le_trans (List.length_filter_le _ _) hl⟩
  exact ⟨_, ⟨fun r => by rw [List.mem_filter, decide_eq_true_eq], hK⟩, by rw [T_B hK], hs⟩
theorem sid_eq {L : List Report} (h : (L.map (·.id)).Pairwise (· ≤ ·)) : sid L = L.map (·.id) := (sid_is (.refl _) h).symm
end S
end Go.Proofs.YtepjkmoipjeghaaDoor
namespace Go.Proofs.YtepjkmoipjeghaaDoor
open Go Go.Sx
namespace S
theorem chk_ok {l : List Report} (h1 : l.length ≤ 60) (h2 : ∀ r ∈ l, V r) (h3 : Cons l) : chkE l = 0 := by
  unfold chkE
  rw [if_neg (by omega), if_neg (by rintro ⟨r, hr, h⟩; exact h (h2 r hr)), if_neg (fun h => h h3)]
theorem V.inR {r : Report} (h : V r) : InR r := by
  unfold V at h
  have hm := most_le r.kind
  refine ⟨?_, ?_, ?_, ?_, ?_, ?_, ?_, ?_⟩ <;> first | rw [InK.i64] | rw [InK.u8]
  all_goals omega
theorem cons_nd {l : List Report} (h : (l.map (·.id)).Nodup) : Cons l := fun _ ha _ hb e => ids_one h ha hb e
/-! Of a part. -/
end S
end Go.Proofs.YtepjkmoipjeghaaDoor
