/-
  Part AccountStates 9 of the texts that the statement's proof stands on: what memory holds, how code is walked, what the functions reckon. In the order in which they build.
-/
import Derived.Test.YtepjkmoipjeghaaDoorProg
import Derived.Test.YtepjkmoipjeghaaDoorAdAccountStates8
set_option linter.unusedVariables false
set_option linter.unusedSectionVars false
set_option maxRecDepth 20000
set_option maxHeartbeats 4000000
namespace Go.Proofs.YtepjkmoipjeghaaDoor
open Go Go.Sx Go.RowKit
theorem C_account_Clashes_deep {M : List Nat} {w : World} (hM : MLt M w) (hG : RdC M w 0 0 (glob0.map (Value.int .i64))) {l : (List Report)} {v_l_0 : Value} (f_l_0 : RdS ReportE M w v_l_0 l) {account : Int} (f_account_0 : InK .i64 account) {known : Int} (f_known_0 : InK .i64 known) {r0 : (List Clash)} {r1 : Int} (h : P.account_Clashes l account known = some (r0, r1)) :
  Calls Tryd.prog 22 (List.toArray [v_l_0, vi account, vi known]) w fun e w' => ∃ v0_0 : Value, e = .returned (Value.tuple (List.toArray [v0_0, vi r1])) ∧ (Sx.Own (ClashF w.heap.size) 55 0 M w' v0_0 r0 ∧ ∀ b ∈ ob v0_0, w.heap.size ≤ b) ∧ InK .i64 r1 ∧ Ext w w' := by
 have hI := Hp.start (Mu := []) hM
 refine calls_cw Tryd.func22 rfl Tryd.ntmps22 rfl ?_
 refine cw_seq (cw_regF (s_as rfl rfl (s_as rfl rfl (Reg.nil (cw_seq (cw_seq (cw_regF (s_mv rfl rfl ?_))))))))
 obtain ⟨z1, hz2, h⟩ := bnd h
 refine s_call rfl Tryd.call17 rfl ((C_account_Check hI.mlt hG f_l_0 hz2).mono ?_)
 rintro _ w3 ⟨rfl, r5, e4⟩
 refine ⟨_, rfl, ?_⟩
 have hI6 := hI.ext e4
 refine s_as rfl rfl (Reg.nil (cw_seq (cw_regF (s_mv rfl rfl (s_neq rfl rfl rfl (Reg.nil (cw_cond rfl (fun hc7 => ?_) (fun hc7 => ?_))))))))
 ·replace h := cdT hc7 h
  refine cw_seq (cw_regF (s_mv rfl rfl (s_as rfl rfl (s_as rfl rfl (Reg.nil (cw_ret ?_))))))
  obtain ⟨rfl, rfl⟩ := inj2 h
  refine fin2 Tryd.results22 rfl rfl ?_
  exact ⟨_, rfl, ⟨Sx.Own.nil _ _ _ _ _, fun _ hb => by cases hb⟩, r5, hI6.kp⟩
 replace h := cdF hc7 h
 refine cw_skip (cw_seq ?_)
 obtain ⟨j8, h9, h⟩ := bnd h
 refine cw_keep [0, 1, 2] rfl (cw_seqD 0 (ι := Bool) (fun x10 => [(34, Value.bool x10)]) (fun x10 => fun w11 => Hp w [] M [] w11 ∧ Adv (mm [] M) (mm [] M) w3 w11 ∧ x10 = j8) ?_ ?_)
 ·refine cw_regF (s_mv rfl rfl (y_bs (E := (intE .i64)) (xs := [account]) sl36 hI6 rfl rfl (Cls.cons rfl Cls.nil) (Chs.cons ⟨rfl, f_account_0⟩ Chs.nil) rfl rfl ?_))
  intro v14 w15 hI16 x17
  obtain ⟨z18, hz19, h9⟩ := bnd h9
  refine s_call rfl Tryd.call35 rfl ?_
  refine (C_account_in (hI16.sel [] rfl).mlt (by decide) (by decide) (hI16.lendRd [] 0 rfl rfl) hz19).mono ?_
  rintro _ w20 ⟨rfl, e21⟩
  refine ⟨_, rfl, ?_⟩
  have hI22 := hI16.ext e21
  refine s_not rfl rfl (s_mv rfl rfl (Reg.gsplit (t := 29) rfl (fun hg23 => ?_) (fun hg23 => ?_)))
  ·replace h9 := cdT hg23 h9
   iterate 4 refine Reg.pass rfl rfl rfl rfl ?_
   refine s_pkT rfl rfl rfl (Reg.nil ?_)
   obtain rfl := Option.some.inj h9
   refine ⟨rfl, true, ⟨(hI22.sel [] rfl), ((x17.trans (Adv.of_ext e21)).trans (Hp.selA (σ := [ownR [] (intE .i64) 3 v14 ([account] : List Int)]) [])), rfl⟩, sb4 rfl rfl rfl rfl⟩
  replace h9 := cdF hg23 h9
  refine Reg.take rfl rfl (s_mv rfl rfl (Reg.take rfl rfl (y_bs (E := (intE .i64)) (xs := [known]) sl36 hI22 rfl rfl (Cls.cons rfl Cls.nil) (Chs.cons ⟨rfl, f_known_0⟩ Chs.nil) rfl rfl ?_)))
  intro v24 w25 hI26 x27
  refine Reg.take rfl rfl ?_
  obtain ⟨z28, hz29, h9⟩ := bnd h9
  refine s_call rfl Tryd.call35 rfl ?_
  refine (C_account_in (hI26.sel [1] rfl).mlt (by decide) (by decide) (hI26.lendRd [1] 0 rfl rfl) hz29).mono ?_
  rintro _ w30 ⟨rfl, e31⟩
  refine ⟨_, rfl, ?_⟩
  have hI32 := hI26.ext e31
  refine Reg.take rfl rfl (s_not rfl rfl (s_pkF rfl rfl rfl (Reg.nil ?_)))
  obtain rfl := Option.some.inj h9
  refine ⟨rfl, !z28, ⟨(hI32.sel [] rfl), ((x17.trans ((Adv.of_ext e21).trans (x27.trans (Adv.of_ext e31)))).trans (Hp.selA (σ := [ownR [] (intE .i64) 3 v24 ([known] : List Int), ownR [] (intE .i64) 3 v14 ([account] : List Int)]) [])), rfl⟩, sb4 rfl rfl rfl rfl⟩
 rintro x10 w11 ⟨hI12, hA13, rfl⟩
 refine cw_cond rfl (fun hc33 => ?_) (fun hc33 => ?_)
 ·replace h := cdT hc33 h
  refine cw_seq (cw_regF (s_as rfl rfl (s_as rfl rfl (Reg.nil (cw_ret ?_)))))
  obtain ⟨rfl, rfl⟩ := inj2 h
  refine fin2 Tryd.results22 rfl rfl ?_
  exact ⟨_, rfl, ⟨Sx.Own.nil _ _ _ _ _, fun _ hb => by cases hb⟩, (by decide), hI12.kp⟩
 replace h := cdF hc33 h
 refine cw_skip (cw_seq (cw_regF ?_))
 iterate 3 refine s_mv rfl rfl ?_
 obtain ⟨z34, hz35, h⟩ := bnd h
 refine s_call rfl Tryd.call52 rfl ?_
 refine (C_account_kept hI12.mlt (hG.adv hI12.adv) (f_l_0.adv hI12.adv) f_account_0 (by decide) f_known_0 hz35).mono ?_
 rintro _ w36 ⟨v38, rfl, hf39, e37⟩
 refine ⟨_, rfl, ?_⟩
 have hI40 := hI12.ext e37
 refine y_al hI40 Tryd.zeroValue105 rfl rfl ?_
 intro b41 w42 hI43 x44
 refine y_st 0 hI43 rfl rfl rfl rfl Tryd.sizeOf105 rfl rfl (one1 (RdS.oneC hf39) one0) ?_
 intro w45 hI46 x47
 have hC49 := hI46.freezeRow 0 rfl
 have hI48 := hI46.erase 0
 refine Reg.nil (cw_seq (cw_regF (s_lda rfl hC49.cells Tryd.isAgg105 rfl Tryd.sizeOf105 rfl ?_)))
 obtain ⟨z50, hz51, h⟩ := bnd h
 refine s_call rfl Tryd.call54 rfl ((C_account_book_paid (b := (Book.mk z34.facts)) hI48.mlt (hf39.adv (x44.trans (x47.trans (hI46.eraseH 0)))) hz51).mono ?_)
 rintro _ w52 ⟨v54, rfl, hf55, e53⟩
 refine ⟨_, rfl, ?_⟩
 have hI56 := hI48.ext e53
 refine s_as rfl rfl (Reg.nil (cw_seq (cw_regF (s_as rfl rfl (Reg.nil (cw_seq (cw_seq (cw_regF (s_mv rfl rfl (Reg.nil ?_))))))))))
 obtain ⟨j57, h58, h⟩ := bnd h
 refine cw_keep [9, 10, 11, 41] rfl (cw_unitD 4 (ι := (List Clash) × Value) (fun ⟨x59, v60⟩ => [(11, v60)]) (fun ⟨x59, v60⟩ => fun w61 => Hp w [] M [ownR [] (ClashF w.heap.size) 55 v60 x59] w61 ∧ Adv (mm [] M) (mm [ownR [] (ClashF w.heap.size) 55 v60 x59] M) w52 w61 ∧ x59 = j57) ?_ ?_)
 ·refine cw_block (cw_keep [11, 41, 9, 10] rfl ?_)
  have hI71 := hI56.addNil (ClashF w.heap.size) 55
  refine cw_loopM 2 (ι := (List Clash) × Int × Value) _ (fun ⟨x64, x66, v65⟩ => [(11, v65), (41, vi x66)]) (fun ⟨x64, x66, v65⟩ => (x64, x66)) (fun ⟨x64, x66, v65⟩ => fun w68 => Hp w [] M [ownR [] (ClashF w.heap.size) 55 v65 x64] w68 ∧ Adv (mm [] M) (mm [ownR [] (ClashF w.heap.size) 55 v65 x64] M) w52 w68 ∧ InK .i64 x66) (([] : List Clash), 0, (vn)) h58 ⟨hI71, (hI56.addNilH (ClashF w.heap.size) 55), (by decide)⟩ (sb4 rfl rfl rfl rfl) ?_
  rintro ⟨x64, x66, v65⟩ w68 ⟨hI69, hA70, r67⟩ y72 h73 hR74
  refine cw_seq (cw_regF (s_lss rfl rfl rfl (Reg.nil (cw_seq (cw_cond rfl (fun hc75 => ?_) (fun hc75 => ?_))))))
  ·replace h73 := cdT hc75 h73
   refine cw_skip (cw_seq (cw_block (cw_seq (cw_regF (s_mv rfl rfl (s_as rfl rfl (Reg.nil (cw_seq (cw_regF (s_mv rfl rfl ?_))))))))))
   obtain ⟨n76, hn76, h73⟩ := bnd h73
   replace hn76 := chk_out hn76
   refine p_add rfl rfl rfl hn76 ?_
   obtain ⟨n77, hn77, h73⟩ := bnd h73
   replace hn77 := chk_out hn77
   refine p_cvt rfl Tryd.underlying3 Tryd.underlying5 rfl hn77 ?_
   refine s_as rfl rfl (Reg.nil (cw_seq (cw_regF (s_lda rfl (hC49.adv ((Adv.of_ext e53).trans hA70)).cells Tryd.isAgg105 rfl Tryd.sizeOf105 rfl (s_mv rfl rfl ?_)))))
   obtain ⟨z78, hz79, h73⟩ := bnd h73
   refine s_call rfl Tryd.call57 rfl ((C_account_book_of (b := (Book.mk z34.facts)) hI69.mlt (hf39.adv (x44.trans (x47.trans ((hI46.eraseH 0).trans ((Adv.of_ext e53).trans hA70))))) hn77.2 hz79).mono ?_)
   rintro _ w80 ⟨v82, rfl, hf83, e81⟩
   refine ⟨_, rfl, ?_⟩
   have hI84 := hI69.addOwn e81 hf83
   refine y_al hI84 Tryd.zeroValue22 rfl rfl ?_
   intro b85 w86 hI87 x88
   refine y_st 0 hI87 rfl rfl rfl (Sx.Own.cells1 (hI87.ownAt 1 rfl)) Tryd.sizeOf22 rfl rfl (one1 (Sx.Own.oneC (hI87.ownAt 1 rfl)) one0) ?_
   intro w89 hI90 x91
   refine Reg.nil ?_
   obtain ⟨j92, h93, h73⟩ := bnd h73
   refine cw_keep [9, 10, 11, 13, 14, 41] rfl (cw_seqD 0 (ι := Bool) (fun x94 => [(15, Value.bool x94)]) (fun x94 => fun w95 => w89 = w95 ∧ x94 = j92) ?_ ?_)
   ·refine cw_regF (s_mv rfl rfl (s_eql rfl rfl rfl (s_mv rfl rfl (Reg.gsplit (t := 52) rfl (fun hg98 => ?_) (fun hg98 => ?_)))))
    ·replace h93 := cdT hg98 h93
     refine Reg.pass rfl rfl rfl rfl (Reg.pass rfl rfl rfl rfl (s_pkT rfl rfl rfl (s_mv rfl rfl (Reg.pass rfl rfl rfl rfl (Reg.pass rfl rfl rfl rfl (s_pkT rfl rfl rfl (s_as rfl rfl (Reg.nil ?_))))))))
     obtain rfl := Option.some.inj h93
     refine ⟨rfl, true, ⟨rfl, rfl⟩, sb7 rfl rfl rfl rfl rfl rfl rfl⟩
    replace h93 := cdF hg98 h93
    refine Reg.take rfl rfl (s_mv rfl rfl (Reg.take rfl rfl (s_eql rfl rfl rfl (s_pkF rfl rfl rfl (s_mv rfl rfl (Reg.gsplit (t := 56) rfl (fun hg99 => ?_) (fun hg99 => ?_)))))))
    ·replace h93 := cdT hg99 h93
     refine Reg.pass rfl rfl rfl rfl (Reg.pass rfl rfl rfl rfl (s_pkT rfl rfl rfl (s_as rfl rfl (Reg.nil ?_))))
     obtain rfl := Option.some.inj h93
     refine ⟨rfl, true, ⟨rfl, rfl⟩, sb7 rfl rfl rfl rfl rfl rfl rfl⟩
    replace h93 := cdF hg99 h93
    refine Reg.take rfl rfl (s_mv rfl rfl (Reg.take rfl rfl (s_eql rfl rfl rfl (s_pkF rfl rfl rfl (s_as rfl rfl (Reg.nil ?_))))))
    obtain rfl := Option.some.inj h93
    refine ⟨rfl, decide (n77 = 7), ⟨rfl, rfl⟩, sb7 rfl rfl rfl rfl rfl rfl rfl⟩
   rintro x94 _ ⟨rfl, rfl⟩
   obtain ⟨j100, h101, h73⟩ := bnd h73
   refine cw_keep [11, 13, 14, 15, 9, 10, 41] rfl (cw_unitD 4 (ι := (List Clash) × (List Report) × Value × Value) (fun ⟨x102, x104, v103, v105⟩ => [(11, v103)]) (fun ⟨x102, x104, v103, v105⟩ => fun w107 => Hp w [] M [ownR [] (ClashF w.heap.size) 55 v103 x102, rowR 22 b85 [v105]] w107 ∧ Adv (mm [rowR 22 b85 [v82], ownR [] ReportE 61 v82 z78, ownR [] (ClashF w.heap.size) 55 v65 x64] M) (mm [ownR [] (ClashF w.heap.size) 55 v103 x102, rowR 22 b85 [v105]] M) w89 w107 ∧ RdS ReportE (mm [ownR [] (ClashF w.heap.size) 55 v103 x102, rowR 22 b85 [v105]] M) w107 v105 x104 ∧ (x102, x104) = j100) ?_ ?_)
   ·refine cw_block (cw_keep [11, 9, 10, 13, 14, 15, 41] rfl ?_)
    have hf118 := hI90.freeze 1 rfl
    have hI119 := hI90.erase 1
    refine cw_loopM 1 (ι := (List Clash) × (List Report) × Value × Value) _ (fun ⟨x110, x112, v111, v113⟩ => [(11, v111)]) (fun ⟨x110, x112, v111, v113⟩ => (x110, x112)) (fun ⟨x110, x112, v111, v113⟩ => fun w115 => Hp w [] M [ownR [] (ClashF w.heap.size) 55 v111 x110, rowR 22 b85 [v113]] w115 ∧ Adv (mm [rowR 22 b85 [v82], ownR [] ReportE 61 v82 z78, ownR [] (ClashF w.heap.size) 55 v65 x64] M) (mm [ownR [] (ClashF w.heap.size) 55 v111 x110, rowR 22 b85 [v113]] M) w89 w115 ∧ RdS ReportE (mm [ownR [] (ClashF w.heap.size) 55 v111 x110, rowR 22 b85 [v113]] M) w115 v113 x112) (x64, z78, v65, v82) h101 ⟨(hI119.sel [1, 0] rfl), ((hI90.eraseH 1).trans (Hp.selA (σ := [rowR 22 b85 [v82], ownR [] (ClashF w.heap.size) 55 v65 x64]) [1, 0])), (hf118.adv (Hp.selA (σ := [rowR 22 b85 [v82], ownR [] (ClashF w.heap.size) 55 v65 x64]) [1, 0]))⟩ (sb7 rfl rfl rfl rfl rfl rfl rfl) ?_
    rintro ⟨x110, x112, v111, v113⟩ w115 ⟨hI116, hA117, hf114⟩ y120 h121 hR122
    refine cw_seq (cw_seq (cw_regF (s_ld rfl ((hI116.row 1 rfl).rd.cells.at 0 rfl) Tryd.isAgg22 rfl (s_len rfl hf114 Tryd.underlying22 rfl (s_gtr rfl rfl rfl (Reg.nil (cw_cond rfl (fun hc123 => ?_) (fun hc123 => ?_))))))))
    ·replace h121 := cdT hc123 h121
     refine cw_skip (cw_block (cw_seq (cw_regF (s_ld rfl ((hI116.row 1 rfl).rd.cells.at 0 rfl) Tryd.isAgg22 rfl (s_len rfl hf114 Tryd.underlying22 rfl (s_as rfl rfl (Reg.nil ?_)))))))
     obtain ⟨j124, h125, h121⟩ := bnd h121
     refine cw_keep [16, 9, 10, 11, 13, 14, 15, 41] rfl (cw_seqD 1 (ι := Int) (fun x126 => [(16, vi x126)]) (fun x126 => fun w128 => Hp w [] M [ownR [] (ClashF w.heap.size) 55 v111 x110, rowR 22 b85 [v113]] w128 ∧ Adv (mm [ownR [] (ClashF w.heap.size) 55 v111 x110, rowR 22 b85 [v113]] M) (mm [ownR [] (ClashF w.heap.size) 55 v111 x110, rowR 22 b85 [v113]] M) w115 w128 ∧ InK .i64 x126 ∧ x126 = j124) ?_ ?_)
     ·refine cw_seq (cw_regF (s_ld rfl ((hI116.row 1 rfl).rd.cells.at 0 rfl) Tryd.isAgg22 rfl (s_mf rfl rfl ?_)))
      obtain ⟨z131, hz132, h125⟩ := bnd h125
      refine s_call rfl Tryd.call58 rfl ((C_slices_IndexFunc_58 (hI116.sel [0] rfl).mlt (hf114.adv (Hp.selA (σ := [ownR [] (ClashF w.heap.size) 55 v111 x110, rowR 22 b85 [v113]]) [0])) (fun a0 r w9 e9 f0 f1 f2 f3 f4 f5 f6 f7 hr => CallsV.ofL Tryd.call59 rfl (C_account_Clashes_in1 ((hI116.sel [0] rfl).mlt.ext e9) f0 f1 f2 f3 f4 f5 f6 f7 (hf114.adv ((Hp.selA (σ := [ownR [] (ClashF w.heap.size) 55 v111 x110, rowR 22 b85 [v113]]) (M := M) [0]).trans (Adv.of_ext e9))) ((hI116.lendC [0] 1 rfl rfl).adv (Adv.of_ext e9)) hr)) hz132).mono ?_)
      rintro _ w133 ⟨rfl, r135, e134⟩
      refine ⟨_, rfl, ?_⟩
      have hI136 := hI116.ext e134
      refine s_as rfl rfl (Reg.nil ?_)
      obtain ⟨j137, h138, h125⟩ := bnd h125
      refine cw_keep [9, 10, 11, 13, 14, 15, 16, 17, 41] rfl (cw_seqD 0 (ι := Bool) (fun x139 => [(73, Value.bool x139)]) (fun x139 => fun w140 => w133 = w140 ∧ x139 = j137) ?_ ?_)
      ·refine cw_regF (s_mv rfl rfl (s_gtr rfl rfl rfl (s_mv rfl rfl (Reg.gsplit (t := 70) rfl (fun hg143 => ?_) (fun hg143 => ?_)))))
       ·replace h138 := cdT hg143 h138
        refine Reg.take rfl rfl (s_mv rfl rfl (Reg.take rfl rfl (s_not rfl rfl (s_pkT rfl rfl rfl (Reg.nil ?_)))))
        obtain rfl := Option.some.inj h138
        refine ⟨rfl, !x94, ⟨rfl, rfl⟩, sb10 rfl rfl rfl rfl rfl rfl rfl rfl rfl rfl⟩
       replace h138 := cdF hg143 h138
       refine Reg.pass rfl rfl rfl rfl (Reg.pass rfl rfl rfl rfl (s_pkF rfl rfl rfl (Reg.nil ?_)))
       obtain rfl := Option.some.inj h138
       refine ⟨rfl, false, ⟨rfl, rfl⟩, sb10 rfl rfl rfl rfl rfl rfl rfl rfl rfl rfl⟩
      rintro x139 _ ⟨rfl, rfl⟩
      obtain ⟨j144, h145, h125⟩ := bnd h125
      refine cw_keep [16, 17, 73, 9, 10, 11, 13, 14, 15, 41] rfl (cw_unitD 3 (ι := Int) (fun x146 => [(16, vi x146)]) (fun x146 => fun w148 => w133 = w148 ∧ InK .i64 x146 ∧ x146 = j144) ?_ ?_)
      ·refine cw_cond rfl (fun hc151 => ?_) (fun hc151 => ?_)
       ·replace h145 := cdT hc151 h145
        refine cw_regF (s_mv rfl rfl (s_as rfl rfl (Reg.nil ?_)))
        obtain rfl := Option.some.inj h145
        refine ⟨rfl, z131, ⟨rfl, r135, rfl⟩, sb8 rfl rfl rfl rfl rfl rfl rfl rfl⟩
       replace h145 := cdF hc151 h145
       refine cw_skip ?_
       obtain rfl := Option.some.inj h145
       refine ⟨rfl, (x112.length : Int), ⟨rfl, (RdS.inK hf114), rfl⟩, sb8 rfl rfl rfl rfl rfl rfl rfl rfl⟩
      rintro x146 _ ⟨rfl, r147, rfl⟩
      obtain rfl := Option.some.inj h125
      refine ⟨rfl, x146, ⟨hI136, (Adv.of_ext e134), r147, rfl⟩, sb8 rfl rfl rfl rfl rfl rfl rfl rfl⟩
     rintro x126 w128 ⟨hI129, hA130, r127, rfl⟩
     refine cw_seq (cw_regF (s_ld rfl ((hI129.row 1 rfl).rd.cells.at 0 rfl) Tryd.isAgg22 rfl ?_))
     obtain ⟨y152, hy152, h121⟩ := bnd h121
     refine p_ia rfl rfl (hf114.adv hA130) hy152 Tryd.underlying22 Tryd.sizeOf61 rfl ?_
     intro b153 o154 cs155 hR156 hC157
     obtain ⟨rfl, r158, r159, r160, r161, r162, r163, r164, r165⟩ := ReportE_R.1 hR156
     refine s_fa rfl Tryd.underlying61 rfl Tryd.sizeOf3 rfl (s_ld rfl (hC157.cells.at 4 rfl) Tryd.isAgg3 rfl (s_as rfl rfl (Reg.nil (cw_seq (cw_regF (s_ld rfl ((hI129.row 1 rfl).rd.cells.at 0 rfl) Tryd.isAgg22 rfl (s_mv rfl rfl ?_)))))))
     obtain ⟨l168, hl168, h121⟩ := bnd h121
     obtain ⟨hbl168, el168⟩ := cutHi_out hl168
     refine s_slH rfl rfl (hf114.adv hA130) hbl168 Tryd.underlying22 Tryd.sizeOf61 rfl ?_
     rw [← el168]; intro v166 hf167 _
     refine s_mv rfl rfl ?_
     obtain ⟨z169, hz170, h121⟩ := bnd h121
     refine s_call rfl Tryd.call60 rfl ((C_account_told hI129.mlt hf167 hz170).mono ?_)
     rintro _ w171 ⟨v176, rfl, r173, r174, r175, hf177, e172⟩
     refine ⟨_, rfl, ?_⟩
     have hI178 := hI129.ext e172
     refine s_fd rfl Tryd.underlying38 rfl Tryd.isAgg5 rfl rfl ?_
     refine s_eql rfl rfl rfl (s_as rfl rfl (Reg.nil ?_))
     obtain ⟨j179, h180, h121⟩ := bnd h121
     refine cw_keep [19, 9, 10, 11, 13, 14, 15, 16, 18, 41] rfl (cw_seqD 1 (ι := Bool) (fun x181 => [(19, Value.bool x181)]) (fun x181 => fun w182 => w171 = w182 ∧ x181 = j179) ?_ ?_)
     ·refine cw_seq (cw_regF (s_mv rfl rfl (s_eql rfl rfl rfl (Reg.nil ?_))))
      obtain ⟨j185, h186, h180⟩ := bnd h180
      refine cw_keep [19, 87, 9, 10, 11, 13, 14, 15, 16, 18, 41] rfl (cw_unitD 2 (ι := Bool) (fun x187 => [(19, Value.bool x187)]) (fun x187 => fun w188 => w171 = w188 ∧ x187 = j185) ?_ ?_)
      ·refine cw_cond rfl (fun hc191 => ?_) (fun hc191 => ?_)
       ·replace h186 := cdT hc191 h186
        refine cw_regF (s_mv rfl rfl (s_mv rfl rfl ?_))
        obtain ⟨y192, hy192, h186⟩ := bnd h186
        refine s_lkF1 (a := y152.about) (z0 := (Span.mk 0 0)) (hf55.adv (hA70.trans ((hI69.addOwnA e81 hf83).trans (x88.trans (x91.trans (hA117.trans (hA130.trans (Adv.of_ext e172)))))))) rfl rfl (show InK .i64 y152.about from r162) Tryd.underlying115 Tryd.zeroValue40 ⟨_, ((SpanE_R (x := (Span.mk 0 0))).2 ⟨rfl, (by decide), (by decide)⟩), .inl ⟨rfl, rfl⟩⟩ rfl ?_
        intro v193 hv194
        rw [Option.some.inj hy192] at hv194
        obtain ⟨cs195, hR196, rfl⟩ := Vl.agg hv194
        obtain ⟨rfl, r197, r198⟩ := SpanE_R.1 hR196
        refine s_fd rfl Tryd.underlying40 rfl Tryd.isAgg3 rfl rfl ?_
        refine s_mv rfl rfl (s_mv rfl rfl ?_)
        obtain ⟨y199, hy199, h186⟩ := bnd h186
        refine s_lkF1 (a := y152.about) (z0 := (Span.mk 0 0)) (hf55.adv (hA70.trans ((hI69.addOwnA e81 hf83).trans (x88.trans (x91.trans (hA117.trans (hA130.trans (Adv.of_ext e172)))))))) rfl rfl (show InK .i64 y152.about from r162) Tryd.underlying115 Tryd.zeroValue40 ⟨_, ((SpanE_R (x := (Span.mk 0 0))).2 ⟨rfl, (by decide), (by decide)⟩), .inl ⟨rfl, rfl⟩⟩ rfl ?_
        intro v200 hv201
        rw [Option.some.inj hy199] at hv201
        obtain ⟨cs202, hR203, rfl⟩ := Vl.agg hv201
        obtain ⟨rfl, r204, r205⟩ := SpanE_R.1 hR203
        refine s_fd rfl Tryd.underlying40 rfl Tryd.isAgg3 rfl rfl ?_
        refine s_neq rfl rfl rfl (s_as rfl rfl (Reg.nil ?_))
        obtain rfl := Option.some.inj h186
        refine ⟨rfl, !decide (y192.lo = y199.hi), ⟨rfl, rfl⟩, sb10 rfl rfl rfl rfl rfl rfl rfl rfl rfl rfl⟩
       replace h186 := cdF hc191 h186
       refine cw_skip ?_
       obtain rfl := Option.some.inj h186
       refine ⟨rfl, decide (z169.known = 1), ⟨rfl, rfl⟩, sb10 rfl rfl rfl rfl rfl rfl rfl rfl rfl rfl⟩
      rintro x187 _ ⟨rfl, rfl⟩
      obtain rfl := Option.some.inj h180
      refine ⟨rfl, x187, ⟨rfl, rfl⟩, sb10 rfl rfl rfl rfl rfl rfl rfl rfl rfl rfl⟩
     rintro x181 _ ⟨rfl, rfl⟩
     obtain ⟨j206, h207, h121⟩ := bnd h121
     refine cw_keep [11, 18, 19, 9, 10, 13, 14, 15, 16, 41] rfl (cw_seqD 3 (ι := (List Clash) × Value) (fun ⟨x208, v209⟩ => [(11, v209)]) (fun ⟨x208, v209⟩ => fun w210 => Hp w [] M [ownR [] (ClashF w.heap.size) 55 v209 x208, rowR 22 b85 [v113]] w210 ∧ Adv (mm [ownR [] (ClashF w.heap.size) 55 v111 x110, rowR 22 b85 [v113]] M) (mm [ownR [] (ClashF w.heap.size) 55 v209 x208, rowR 22 b85 [v113]] M) w171 w210 ∧ x208 = j206) ?_ ?_)
     ·refine cw_seq (cw_regF (s_mv rfl rfl (Reg.nil ?_)))
      obtain ⟨j213, h214, h207⟩ := bnd h207
      refine cw_keep [11, 18, 97, 9, 10, 13, 14, 15, 16, 41] rfl (cw_unitD 3 (ι := (List Clash) × Value) (fun ⟨x215, v216⟩ => [(11, v216)]) (fun ⟨x215, v216⟩ => fun w217 => Hp w [] M [ownR [] (ClashF w.heap.size) 55 v216 x215, rowR 22 b85 [v113]] w217 ∧ Adv (mm [ownR [] (ClashF w.heap.size) 55 v111 x110, rowR 22 b85 [v113]] M) (mm [ownR [] (ClashF w.heap.size) 55 v216 x215, rowR 22 b85 [v113]] M) w171 w217 ∧ x215 = j213) ?_ ?_)
      ·refine cw_cond rfl (fun hc220 => ?_) (fun hc220 => ?_)
       ·replace h214 := cdT hc220 h214
        refine cw_regF ?_
        iterate 3 refine s_mv rfl rfl ?_
        refine s_ld rfl ((hI178.row 1 rfl).rd.cells.at 0 rfl) Tryd.isAgg22 rfl (s_mv rfl rfl ?_)
        obtain ⟨l223, hl223, h214⟩ := bnd h214
        obtain ⟨hbl223, el223⟩ := cutHi_out hl223
        refine s_slH rfl rfl (hf114.adv (hA130.trans (Adv.of_ext e172))) hbl223 Tryd.underlying22 Tryd.sizeOf61 rfl ?_
        rw [← el223]; intro v221 hf222 _
        obtain ⟨z224, hz225, h214⟩ := bnd h214
        refine s_call rfl Tryd.call61 rfl ((C_account_ids hI178.mlt hf222 hz225).mono ?_)
        rintro _ w226 ⟨v228, rfl, hf229, e227⟩
        refine ⟨_, rfl, ?_⟩
        have hI230 := hI178.addOwn e227 hf229
        refine s_bd [(0, 1), (1, 1), (2, 1)] Tryd.zeroValue55 rfl Tryd.underlying55 (fun _ => by simp [Tryd.sizeOf3, Tryd.sizeOf36, Tryd.sizeOf5]) rfl (Cls.cons rfl (Cls.cons rfl (Cls.cons (Sx.Own.cells1 (hI230.ownAt 0 rfl)) (Cls.nil)))) rfl rfl ?_
        have hf231 := hI230.freeze 0 rfl
        have hfw233 := hI230.freezeW 0 rfl
        have hI232 := hI230.erase 0
        refine y_bs (E := (ClashF w.heap.size)) (xs := [(Clash.mk n77 y152.about z224)]) sl47 hI232 rfl rfl (Cls.cons rfl Cls.nil) (Chs.cons ((ClashF_R (n := w.heap.size) (x := (Clash.mk n77 y152.about z224))).2 ⟨_, rfl, hn77.2, r162, hfw233⟩) Chs.nil) rfl rfl ?_
        intro v234 w235 hI236 x237
        have hf238 := hI236.freeze 0 rfl
        have hI239 := hI236.erase 0
        obtain ⟨l240, hl240, h214⟩ := bnd h214
        obtain ⟨hbl240, el240⟩ := appo_out hl240
        refine y_app 0 sl47 hI239 rfl rfl rfl hf238 hbl240 rfl ?_
        rw [← el240]
        intro v241 w242 hI243 x244
        refine s_as rfl rfl (Reg.nil ?_)
        obtain rfl := Option.some.inj h214
        refine ⟨rfl, (l240, v241), ⟨hI243, ((hI178.addOwnA e227 hf229).trans ((hI230.eraseH 0).trans (x237.trans ((hI236.eraseH 0).trans x244)))), rfl⟩, sb8 rfl rfl rfl rfl rfl rfl rfl rfl⟩
       replace h214 := cdF hc220 h214
       refine cw_skip ?_
       obtain rfl := Option.some.inj h214
       refine ⟨rfl, (x110, v111), ⟨hI178, (Adv.refl _ _), rfl⟩, sb8 rfl rfl rfl rfl rfl rfl rfl rfl⟩
      rintro ⟨x215, v216⟩ w217 ⟨hI218, hA219, rfl⟩
      obtain rfl := Option.some.inj h207
      refine ⟨rfl, (x215, v216), ⟨hI218, hA219, rfl⟩, sb8 rfl rfl rfl rfl rfl rfl rfl rfl⟩
     rintro ⟨x208, v209⟩ w210 ⟨hI211, hA212, rfl⟩
     refine cw_regF (s_ld rfl ((hI211.row 1 rfl).rd.cells.at 0 rfl) Tryd.isAgg22 rfl (s_mv rfl rfl ?_))
     obtain ⟨l247, hl247, h121⟩ := bnd h121
     obtain ⟨hbl247, el247⟩ := cutLo_out hl247
     refine s_slL rfl rfl (hf114.adv (hA130.trans ((Adv.of_ext e172).trans hA212))) hbl247 Tryd.underlying22 Tryd.sizeOf61 rfl ?_
     rw [← el247]; intro v245 hf246
     refine y_st 1 hI211 rfl rfl rfl (RdS.cells1 hf246) Tryd.sizeOf22 rfl rfl (one1 (RdS.oneC hf246) one0) ?_
     intro w248 hI249 x250
     refine Reg.nil ?_
     obtain rfl := Option.some.inj h121
     refine ⟨rfl, (x208, l247, v209, v245), ⟨⟨hI249, (hA117.trans (hA130.trans ((Adv.of_ext e172).trans (hA212.trans x250)))), (hf246.adv x250)⟩, rfl⟩, sb7 rfl rfl rfl rfl rfl rfl rfl⟩
    replace h121 := cdF hc123 h121
    refine cw_exit (exB_same ?_)
    obtain rfl := Option.some.inj h121
    obtain rfl := hR122 _ rfl
    refine ⟨rfl, (x110, x112, v111, v113), ⟨hI116, hA117, hf114, rfl⟩, sb4 rfl rfl rfl rfl⟩
   rintro ⟨x102, x104, v103, v105⟩ w107 ⟨hI108, hA109, hf106, rfl⟩
   refine cw_regF ?_
   obtain ⟨n251, hn251, h73⟩ := bnd h73
   replace hn251 := chk_out hn251
   refine p_add rfl rfl rfl hn251 (s_mv rfl rfl (Reg.nil ?_))
   obtain rfl := Option.some.inj h73
   refine ⟨rfl, (x102, n251, v103), ⟨⟨(hI108.sel [0] rfl), ((hA70.trans ((hI69.addOwnA e81 hf83).trans (x88.trans (x91.trans hA109)))).trans (Hp.selA (σ := [ownR [] (ClashF w.heap.size) 55 v103 x102, rowR 22 b85 [v105]]) [0])), hn251.2⟩, rfl⟩, sb4 rfl rfl rfl rfl⟩
  replace h73 := cdF hc75 h73
  refine cw_exit (exB_same ?_)
  obtain rfl := Option.some.inj h73
  obtain rfl := hR74 _ rfl
  refine ⟨rfl, (x64, v65), ⟨hI69, hA70, rfl⟩, sb1 rfl⟩
 rintro ⟨x59, v60⟩ w61 ⟨hI62, hA63, rfl⟩
 refine cw_seq (cw_regF (s_mv rfl rfl (s_as rfl rfl (s_as rfl rfl (Reg.nil (cw_ret ?_))))))
 obtain ⟨rfl, rfl⟩ := inj2 h
 refine fin2 Tryd.results22 rfl rfl ?_
 exact ⟨_, rfl, (hI62.ownOut 0 rfl), (by decide), hI62.kp⟩
end Go.Proofs.YtepjkmoipjeghaaDoor
set_option maxRecDepth 20000
set_option maxHeartbeats 4000000
namespace Go.Proofs.YtepjkmoipjeghaaDoor
open Go Go.Sx Go.RowKit
noncomputable def P.law03_AccountStates (l : (List Report)) (id : Int) (day : Int) (known : Int) : Option Bool :=
  cond (decide (80 < (l.length : Int))) (some true) (Option.bind (appo 64 ([] : List Report) l) fun l6 => Option.bind (P.account_State l6 id day known) fun (z13, z14) => Option.bind (P.ref03_State l id day known) fun (z62, z63) => Option.bind (P.account_Clashes l6 id known) fun (z111, z112) => Option.bind (P.ref03_Clashes l id known) fun (z121, z122) => Option.bind (Option.bind (P.ref03_SameState (State.mk (Told.mk z13.opened.known z13.opened.cents z13.opened.since z13.opened.by_) (Told.mk z13.limit.known z13.limit.cents z13.limit.since z13.limit.by_) (Told.mk z13.owed.known z13.owed.cents z13.owed.since z13.owed.by_) (Told.mk z13.late.known z13.late.cents z13.late.since z13.late.by_) (Told.mk z13.default.known z13.default.cents z13.default.since z13.default.by_) (Told.mk z13.closed.known z13.closed.cents z13.closed.since z13.closed.by_) (Span.mk z13.paid.lo z13.paid.hi) z13.is_) (State.mk (Told.mk z62.opened.known z62.opened.cents z62.opened.since z62.opened.by_) (Told.mk z62.limit.known z62.limit.cents z62.limit.since z62.limit.by_) (Told.mk z62.owed.known z62.owed.cents z62.owed.since z62.owed.by_) (Told.mk z62.late.known z62.late.cents z62.late.since z62.late.by_) (Told.mk z62.default.known z62.default.cents z62.default.since z62.default.by_) (Told.mk z62.closed.known z62.closed.cents z62.closed.since z62.closed.by_) (Span.mk z62.paid.lo z62.paid.hi) z62.is_)) fun z130 => cond z130 (cond (decide (z14 = z63)) (Option.bind (P.ref03_SameClashes z111 z121) fun z137 => cond z137 (some (decide (z112 = z122))) (some false)) (some false)) (some false)) fun x143 => Option.bind (P.account_State l6 id day known) fun (z148, z149) => Option.bind (cond x143 (Option.bind (P.ref03_SameState (State.mk (Told.mk z148.opened.known z148.opened.cents z148.opened.since z148.opened.by_) (Told.mk z148.limit.known z148.limit.cents z148.limit.since z148.limit.by_) (Told.mk z148.owed.known z148.owed.cents z148.owed.since z148.owed.by_) (Told.mk z148.late.known z148.late.cents z148.late.since z148.late.by_) (Told.mk z148.default.known z148.default.cents z148.default.since z148.default.by_) (Told.mk z148.closed.known z148.closed.cents z148.closed.since z148.closed.by_) (Span.mk z148.paid.lo z148.paid.hi) z148.is_) (State.mk (Told.mk z62.opened.known z62.opened.cents z62.opened.since z62.opened.by_) (Told.mk z62.limit.known z62.limit.cents z62.limit.since z62.limit.by_) (Told.mk z62.owed.known z62.owed.cents z62.owed.since z62.owed.by_) (Told.mk z62.late.known z62.late.cents z62.late.since z62.late.by_) (Told.mk z62.default.known z62.default.cents z62.default.since z62.default.by_) (Told.mk z62.closed.known z62.closed.cents z62.closed.since z62.closed.by_) (Span.mk z62.paid.lo z62.paid.hi) z62.is_)) fun z198 => cond z198 (cond (decide (z149 = z63)) (Option.bind (P.ref03_SameReports l6 l) fun z205 => some z205) (some false)) (some false)) (some false)) fun x210 => some x210)
theorem C_law03_AccountStates {M : List Nat} {w : World} (hM : MLt M w) (hG : RdC M w 0 0 (glob0.map (Value.int .i64))) {l : (List Report)} {v_l_0 : Value} (f_l_0 : RdS ReportE M w v_l_0 l) {id : Int} (f_id_0 : InK .i64 id) {day : Int} (f_day_0 : InK .i64 day) {known : Int} (f_known_0 : InK .i64 known) {r0 : Bool} (h : P.law03_AccountStates l id day known = some r0) :
  Calls Tryd.prog 4 (List.toArray [v_l_0, vi id, vi day, vi known]) w fun e w' => e = .returned (Value.bool r0) ∧ Ext w w' := by
 have hI := Hp.start (Mu := []) hM
 refine calls_cw Tryd.func4 rfl Tryd.ntmps4 rfl ?_
 refine cw_seq (cw_regF (s_as rfl rfl (Reg.nil (cw_seq (cw_seq (cw_regF (s_mv rfl rfl (s_len rfl f_l_0 Tryd.underlying22 rfl (s_gtr rfl rfl rfl (Reg.nil (cw_cond rfl (fun hc1 => ?_) (fun hc1 => ?_))))))))))))
 ·replace h := cdT hc1 h
  refine cw_seq (cw_regF (s_as rfl rfl (Reg.nil (cw_ret ?_))))
  obtain rfl := Option.some.inj h
  refine fin1 Tryd.results4 rfl ?_
  exact ⟨rfl, hI.kp⟩
 replace h := cdF hc1 h
 refine cw_skip (cw_seq (cw_regF (y_bs (E := ReportE) (xs := []) sl22 hI rfl rfl Cls.nil Chs.nil rfl rfl ?_)))
 intro v2 w3 hI4 x5
 refine s_mv rfl rfl ?_
 obtain ⟨l6, hl6, h⟩ := bnd h
 obtain ⟨hbl6, el6⟩ := appo_out hl6
 refine y_app 0 sl22 hI4 rfl rfl rfl (f_l_0.adv hI4.adv) hbl6 rfl ?_
 rw [← el6]
 intro v7 w8 hI9 x10
 refine s_as rfl rfl (Reg.nil (cw_seq (cw_regF ?_)))
 iterate 4 refine s_mv rfl rfl ?_
 have hf11 := hI9.freeze 0 rfl
 have hI12 := hI9.erase 0
 obtain ⟨⟨z13, z14⟩, hz15, h⟩ := bnd h
 refine s_call rfl Tryd.call20 rfl ((C_account_State hI12.mlt (hG.adv hI12.adv) hf11 f_id_0 f_day_0 f_known_0 hz15).mono ?_)
 rintro _ w16 ⟨v21, v26, v31, v36, v41, v46, rfl, r18, r19, r20, hf22, r23, r24, r25, hf27, r28, r29, r30, hf32, r33, r34, r35, hf37, r38, r39, r40, hf42, r43, r44, r45, hf47, r48, r49, r50, r51, e17⟩
 refine ⟨_, rfl, ?_⟩
 have hI52 := hI12.ext e17
 refine s_mv rfl rfl (s_xt rfl rfl rfl (s_xt rfl rfl rfl (y_al hI52 Tryd.zeroValue42 rfl rfl ?_)))
 intro b53 w54 hI55 x56
 refine y_st 0 hI55 rfl rfl rfl rfl Tryd.sizeOf42 rfl rfl (one1 rfl (one1 rfl (one1 rfl (one1 (RdS.oneC hf22) (one1 rfl (one1 rfl (one1 rfl (one1 (RdS.oneC hf27) (one1 rfl (one1 rfl (one1 rfl (one1 (RdS.oneC hf32) (one1 rfl (one1 rfl (one1 rfl (one1 (RdS.oneC hf37) (one1 rfl (one1 rfl (one1 rfl (one1 (RdS.oneC hf42) (one1 rfl (one1 rfl (one1 rfl (one1 (RdS.oneC hf47) (on3 rfl rfl rfl))))))))))))))))))))))))) ?_
 intro w57 hI58 x59
 have hC61 := hI58.freezeRow 0 rfl
 have hI60 := hI58.erase 0
 refine s_as rfl rfl (Reg.nil (cw_seq (cw_regF ?_)))
 iterate 4 refine s_mv rfl rfl ?_
 obtain ⟨⟨z62, z63⟩, hz64, h⟩ := bnd h
 refine s_call rfl Tryd.call21 rfl ((C_ref03_State hI60.mlt (f_l_0.adv hI60.adv) f_id_0 f_day_0 f_known_0 hz64).mono ?_)
 rintro _ w65 ⟨v70, v75, v80, v85, v90, v95, rfl, r67, r68, r69, hf71, r72, r73, r74, hf76, r77, r78, r79, hf81, r82, r83, r84, hf86, r87, r88, r89, hf91, r92, r93, r94, hf96, r97, r98, r99, r100, e66⟩
 refine ⟨_, rfl, ?_⟩
 have hI101 := hI60.ext e66
 refine s_mv rfl rfl (s_xt rfl rfl rfl (s_xt rfl rfl rfl (y_al hI101 Tryd.zeroValue42 rfl rfl ?_)))
 intro b102 w103 hI104 x105
 refine y_st 0 hI104 rfl rfl rfl rfl Tryd.sizeOf42 rfl rfl (one1 rfl (one1 rfl (one1 rfl (one1 (RdS.oneC hf71) (one1 rfl (one1 rfl (one1 rfl (one1 (RdS.oneC hf76) (one1 rfl (one1 rfl (one1 rfl (one1 (RdS.oneC hf81) (one1 rfl (one1 rfl (one1 rfl (one1 (RdS.oneC hf86) (one1 rfl (one1 rfl (one1 rfl (one1 (RdS.oneC hf91) (one1 rfl (one1 rfl (one1 rfl (one1 (RdS.oneC hf96) (on3 rfl rfl rfl))))))))))))))))))))))))) ?_
 intro w106 hI107 x108
 have hC110 := hI107.freezeRow 0 rfl
 have hI109 := hI107.erase 0
 refine s_as rfl rfl (Reg.nil (cw_seq (cw_regF ?_)))
 iterate 3 refine s_mv rfl rfl ?_
 obtain ⟨⟨z111, z112⟩, hz113, h⟩ := bnd h
 refine s_call rfl Tryd.call22 rfl ((C_account_Clashes_deep hI109.mlt (hG.adv hI109.adv) (hf11.adv ((Adv.of_ext e17).trans (x56.trans (x59.trans ((hI58.eraseH 0).trans ((Adv.of_ext e66).trans (x105.trans (x108.trans (hI107.eraseH 0))))))))) f_id_0 f_known_0 hz113).mono ?_)
 rintro _ w114 ⟨v116, rfl, hf117, r118, e115⟩
 refine ⟨_, rfl, ?_⟩
 have hI119 := hI109.ext e115
 have hf120 := (Sx.Own.weak (E := ClashF w106.heap.size) (F := ClashE) rfl ClashF_E hf117.1).rd (fun b hb hm => absurd (hI109.mlt b hm) (by have := hf117.2 b hb; omega))
 refine s_mv rfl rfl (s_xt rfl rfl rfl (s_xt rfl rfl rfl (s_as rfl rfl (s_as rfl rfl (Reg.nil (cw_seq (cw_regF ?_)))))))
 iterate 3 refine s_mv rfl rfl ?_
 obtain ⟨⟨z121, z122⟩, hz123, h⟩ := bnd h
 refine s_call rfl Tryd.call23 rfl ((C_ref03_Clashes hI119.mlt (f_l_0.adv hI119.adv) f_id_0 f_known_0 hz123).mono ?_)
 rintro _ w124 ⟨v126, rfl, hf127, r128, e125⟩
 refine ⟨_, rfl, ?_⟩
 have hI129 := hI119.addOwn e125 hf127
 refine s_mv rfl rfl (s_xt rfl rfl rfl (s_xt rfl rfl rfl (s_as rfl rfl (s_as rfl rfl (Reg.nil ?_)))))
 obtain ⟨j130, h131, h⟩ := bnd h
 refine cw_sub (L := [(10, _), (11, _), (15, _), (16, _), (17, _), (0, _), (1, _), (2, _), (3, _), (9, _), (12, _), (13, _), (14, _)]) (Sub.cons rfl (sb12 rfl rfl rfl rfl rfl rfl rfl rfl rfl rfl rfl rfl)) (cw_seqD 5 (ι := Bool) (fun x132 => [(18, Value.bool x132)]) (fun x132 => fun w133 => Hp w [] M [ownR [] ClashE 55 v126 z121] w133 ∧ Adv (mm [ownR [] ClashE 55 v126 z121] M) (mm [ownR [] ClashE 55 v126 z121] M) w124 w133 ∧ x132 = j130) ?_ ?_)
 ·refine cw_regF (s_lda rfl (hC61.adv ((Adv.of_ext e66).trans (x105.trans (x108.trans ((hI107.eraseH 0).trans ((Adv.of_ext e115).trans (hI119.addOwnA e125 hf127))))))).cells Tryd.isAgg42 rfl Tryd.sizeOf42 rfl (s_lda rfl (hC110.adv ((Adv.of_ext e115).trans (hI119.addOwnA e125 hf127))).cells Tryd.isAgg42 rfl Tryd.sizeOf42 rfl ?_))
  obtain ⟨z136, hz137, h131⟩ := bnd h131
  refine s_call rfl Tryd.call24 rfl ((C_ref03_SameState (a := (State.mk (Told.mk z13.opened.known z13.opened.cents z13.opened.since z13.opened.by_) (Told.mk z13.limit.known z13.limit.cents z13.limit.since z13.limit.by_) (Told.mk z13.owed.known z13.owed.cents z13.owed.since z13.owed.by_) (Told.mk z13.late.known z13.late.cents z13.late.since z13.late.by_) (Told.mk z13.default.known z13.default.cents z13.default.since z13.default.by_) (Told.mk z13.closed.known z13.closed.cents z13.closed.since z13.closed.by_) (Span.mk z13.paid.lo z13.paid.hi) z13.is_)) (b := (State.mk (Told.mk z62.opened.known z62.opened.cents z62.opened.since z62.opened.by_) (Told.mk z62.limit.known z62.limit.cents z62.limit.since z62.limit.by_) (Told.mk z62.owed.known z62.owed.cents z62.owed.since z62.owed.by_) (Told.mk z62.late.known z62.late.cents z62.late.since z62.late.by_) (Told.mk z62.default.known z62.default.cents z62.default.since z62.default.by_) (Told.mk z62.closed.known z62.closed.cents z62.closed.since z62.closed.by_) (Span.mk z62.paid.lo z62.paid.hi) z62.is_)) hI129.mlt r18 r19 r20 (hf22.adv (x56.trans (x59.trans ((hI58.eraseH 0).trans ((Adv.of_ext e66).trans (x105.trans (x108.trans ((hI107.eraseH 0).trans ((Adv.of_ext e115).trans (hI119.addOwnA e125 hf127)))))))))) r23 r24 r25 (hf27.adv (x56.trans (x59.trans ((hI58.eraseH 0).trans ((Adv.of_ext e66).trans (x105.trans (x108.trans ((hI107.eraseH 0).trans ((Adv.of_ext e115).trans (hI119.addOwnA e125 hf127)))))))))) r28 r29 r30 (hf32.adv (x56.trans (x59.trans ((hI58.eraseH 0).trans ((Adv.of_ext e66).trans (x105.trans (x108.trans ((hI107.eraseH 0).trans ((Adv.of_ext e115).trans (hI119.addOwnA e125 hf127)))))))))) r33 r34 r35 (hf37.adv (x56.trans (x59.trans ((hI58.eraseH 0).trans ((Adv.of_ext e66).trans (x105.trans (x108.trans ((hI107.eraseH 0).trans ((Adv.of_ext e115).trans (hI119.addOwnA e125 hf127)))))))))) r38 r39 r40 (hf42.adv (x56.trans (x59.trans ((hI58.eraseH 0).trans ((Adv.of_ext e66).trans (x105.trans (x108.trans ((hI107.eraseH 0).trans ((Adv.of_ext e115).trans (hI119.addOwnA e125 hf127)))))))))) r43 r44 r45 (hf47.adv (x56.trans (x59.trans ((hI58.eraseH 0).trans ((Adv.of_ext e66).trans (x105.trans (x108.trans ((hI107.eraseH 0).trans ((Adv.of_ext e115).trans (hI119.addOwnA e125 hf127)))))))))) r48 r49 r50 r67 r68 r69 (hf71.adv (x105.trans (x108.trans ((hI107.eraseH 0).trans ((Adv.of_ext e115).trans (hI119.addOwnA e125 hf127)))))) r72 r73 r74 (hf76.adv (x105.trans (x108.trans ((hI107.eraseH 0).trans ((Adv.of_ext e115).trans (hI119.addOwnA e125 hf127)))))) r77 r78 r79 (hf81.adv (x105.trans (x108.trans ((hI107.eraseH 0).trans ((Adv.of_ext e115).trans (hI119.addOwnA e125 hf127)))))) r82 r83 r84 (hf86.adv (x105.trans (x108.trans ((hI107.eraseH 0).trans ((Adv.of_ext e115).trans (hI119.addOwnA e125 hf127)))))) r87 r88 r89 (hf91.adv (x105.trans (x108.trans ((hI107.eraseH 0).trans ((Adv.of_ext e115).trans (hI119.addOwnA e125 hf127)))))) r92 r93 r94 (hf96.adv (x105.trans (x108.trans ((hI107.eraseH 0).trans ((Adv.of_ext e115).trans (hI119.addOwnA e125 hf127)))))) r97 r98 r99 hz137).mono ?_)
  rintro _ w138 ⟨rfl, e139⟩
  refine ⟨_, rfl, ?_⟩
  have hI140 := hI129.ext e139
  refine s_mv rfl rfl (Reg.gsplit (t := 62) rfl (fun hg141 => ?_) (fun hg141 => ?_))
  ·replace h131 := cdT hg141 h131
   refine Reg.take rfl rfl (s_mv rfl rfl (Reg.take rfl rfl (s_mv rfl rfl (Reg.take rfl rfl (s_eql rfl rfl rfl (s_pkT rfl rfl rfl (s_mv rfl rfl (Reg.gsplit (t := 67) rfl (fun hg142 => ?_) (fun hg142 => ?_)))))))))
   ·replace h131 := cdT hg142 h131
    refine Reg.take rfl rfl (s_mv rfl rfl (Reg.take rfl rfl (s_mv rfl rfl (Reg.take rfl rfl ?_))))
    obtain ⟨z143, hz144, h131⟩ := bnd h131
    refine s_call rfl Tryd.call25 rfl ((C_ref03_SameClashes (hI140.sel [] rfl).mlt ((hf120.adv ((hI119.addOwnA e125 hf127).trans (Adv.of_ext e139))).adv (Hp.selA (σ := [ownR [] ClashE 55 v126 z121]) [])) (hI140.lendRd [] 0 rfl rfl) hz144).mono ?_)
    rintro _ w145 ⟨rfl, e146⟩
    refine ⟨_, rfl, ?_⟩
    have hI147 := hI140.ext e146
    refine s_pkT rfl rfl rfl (s_mv rfl rfl (Reg.gsplit (t := 72) rfl (fun hg148 => ?_) (fun hg148 => ?_)))
    ·replace h131 := cdT hg148 h131
     refine Reg.take rfl rfl (s_mv rfl rfl (Reg.take rfl rfl (s_mv rfl rfl (Reg.take rfl rfl (s_eql rfl rfl rfl (s_pkT rfl rfl rfl (s_as rfl rfl (Reg.nil ?_))))))))
     obtain rfl := Option.some.inj h131
     refine ⟨rfl, decide (z112 = z122), ⟨hI147, ((Adv.of_ext e139).trans (Adv.of_ext e146)), rfl⟩, sb9 rfl rfl rfl rfl rfl rfl rfl rfl rfl⟩
    replace h131 := cdF hg148 h131
    iterate 3 refine Reg.pass rfl rfl rfl rfl ?_
    refine s_pkF rfl rfl rfl (s_as rfl rfl (Reg.nil ?_))
    obtain rfl := Option.some.inj h131
    refine ⟨rfl, false, ⟨hI147, ((Adv.of_ext e139).trans (Adv.of_ext e146)), rfl⟩, sb9 rfl rfl rfl rfl rfl rfl rfl rfl rfl⟩
   replace h131 := cdF hg142 h131
   iterate 3 refine Reg.pass rfl rfl rfl rfl ?_
   refine s_pkF rfl rfl rfl (s_mv rfl rfl ?_)
   iterate 3 refine Reg.pass rfl rfl rfl rfl ?_
   refine s_pkF rfl rfl rfl (s_as rfl rfl (Reg.nil ?_))
   obtain rfl := Option.some.inj h131
   refine ⟨rfl, false, ⟨hI140, (Adv.of_ext e139), rfl⟩, sb9 rfl rfl rfl rfl rfl rfl rfl rfl rfl⟩
  replace h131 := cdF hg141 h131
  iterate 3 refine Reg.pass rfl rfl rfl rfl ?_
  refine s_pkF rfl rfl rfl (s_mv rfl rfl ?_)
  iterate 3 refine Reg.pass rfl rfl rfl rfl ?_
  refine s_pkF rfl rfl rfl (s_mv rfl rfl ?_)
  iterate 3 refine Reg.pass rfl rfl rfl rfl ?_
  refine s_pkF rfl rfl rfl (s_as rfl rfl (Reg.nil ?_))
  obtain rfl := Option.some.inj h131
  refine ⟨rfl, false, ⟨hI140, (Adv.of_ext e139), rfl⟩, sb9 rfl rfl rfl rfl rfl rfl rfl rfl rfl⟩
 rintro x132 w133 ⟨hI134, hA135, rfl⟩
 refine cw_seq (cw_seq (cw_regF (s_mv rfl rfl (s_len rfl (hf120.adv ((hI119.addOwnA e125 hf127).trans hA135)) Tryd.underlying47 rfl (s_mv rfl rfl (Reg.nil ?_))))))
 have hf149 := hI134.freeze 0 rfl
 have hI150 := hI134.erase 0
 refine cw_block ?_
 have hA1_ := ((hI119.addOwnA e125 hf127).trans (hA135.trans (hI134.eraseH 0)))
 have hown_ := hf117.1.adv2 hA1_ (fun b hb => hA1_.kp.block b (hf117.1.ge b hb).2 (fun hm => absurd (hI109.mlt b hm) (by have := hf117.2 b hb; omega)))
 obtain ⟨ac_, cc_, gc_, hv_, hva_, hDI_⟩ := DI.of hown_
 obtain ⟨L0_, hL0_⟩ : ∃ L0, L0 = List.range' w106.heap.size (w133.heap.size - w106.heap.size) := ⟨_, rfl⟩
 refine cw_sub (L := [(79, _), (78, _), (14, v116), (0, _), (1, _), (2, _), (3, _), (9, _), (12, _), (13, _), (18, _)]) (sb11 rfl rfl rfl rfl rfl rfl rfl rfl rfl rfl rfl) (cw_loopD 1 (ι := Nat) (fun i => [(79, .int .i64 i)]) (fun i W_ => i ≤ z111.length ∧ DI w106.heap.size gc_ z111 W_ ∧ Kp L0_ w133 W_) (fun i => z111.length - i) 0 ⟨Nat.zero_le _, hDI_, Kp.refl _ _⟩ (sb11 rfl rfl rfl rfl rfl rfl rfl rfl rfl rfl rfl) (fun i w151 hW_ => ?_))
 obtain ⟨hi_, hDi_, hKi_⟩ := hW_
 refine cw_seq (cw_regF (s_lss rfl rfl rfl (Reg.nil (cw_seq (cw_cond rfl (fun hc_ => ?_) (fun hc_ => ?_))))))
 ·have hlt_ : i < z111.length := by have := of_decide_eq_true hc_; omega
  rcases hva_ with h0_ | ha_
  ·omega
  subst ha_
  subst hv_
  obtain ⟨u_, hCu_, au_, cu_, hu_, hum_, hub_⟩ := hDi_ i hlt_
  subst hu_
  refine cw_skip (cw_seq (cw_block (cw_seq (cw_regF (s_mv rfl rfl (s_as rfl rfl (Reg.nil (cw_seq (cw_regF (s_mv rfl rfl (s_mv rfl rfl ?_)))))))))))
  refine s_iaW rfl rfl hlt_ Tryd.underlying47 Tryd.sizeOf55 rfl ?_
  refine s_fa rfl Tryd.underlying55 rfl Tryd.sizeOf36 rfl (s_ld rfl (hCu_.at 2 rfl) Tryd.isAgg36 rfl (s_lenV rfl Tryd.underlying36 rfl ?_))
  refine s_mv rfl rfl (Reg.nil (cw_block (cw_sub (L := [(88, _), (87, _), (19, _), (79, _), (78, _), (14, _), (0, _), (1, _), (2, _), (3, _), (9, _), (12, _), (13, _), (18, _)]) (Sub.cons rfl (Sub.cons rfl (sb12 rfl rfl rfl rfl rfl rfl rfl rfl rfl rfl rfl rfl))) (cw_loopD 1 (ι := Nat) (fun k => [(88, .int .i64 k)]) (fun k W_ => k ≤ z111[i].by_.length ∧ DI w106.heap.size gc_ z111 W_ ∧ Kp L0_ w133 W_) (fun k => z111[i].by_.length - k) 0 ⟨Nat.zero_le _, hDi_, hKi_⟩ (Sub.cons rfl (Sub.cons rfl (sb12 rfl rfl rfl rfl rfl rfl rfl rfl rfl rfl rfl rfl))) (fun k W3_ hW3_ => ?_)))))
  obtain ⟨hk_, hDk_, hKk_⟩ := hW3_
  refine cw_seq (cw_regF (s_lss rfl rfl rfl (Reg.nil (cw_seq (cw_cond rfl (fun hd_ => ?_) (fun hd_ => ?_))))))
  ·have hlk_ : k < z111[i].by_.length := by have := of_decide_eq_true hd_; omega
   obtain ⟨u3_, hC3_, a3_, c3_, hu3_, hm3_, hb3_⟩ := hDk_ i hlt_
   rcases hb3_ with h0_ | ⟨b3_, cur3_, e3_, ha3_, hn3_, hne3_, hh3_, hle3_⟩
   ·omega
   subst ha3_
   subst hu3_
   refine cw_skip (cw_seq (cw_block (cw_seq (cw_regF (s_mv rfl rfl (s_as rfl rfl (Reg.nil (cw_regF (s_mv rfl rfl (s_mv rfl rfl (s_iaW rfl rfl hlt_ Tryd.underlying47 Tryd.sizeOf55 rfl ?_)))))))))))
   refine s_fa rfl Tryd.underlying55 rfl Tryd.sizeOf36 rfl (s_ld rfl (hC3_.at 2 rfl) Tryd.isAgg36 rfl (s_mv rfl rfl (s_iaW rfl rfl hlk_ Tryd.underlying36 Tryd.sizeOf3 rfl ?_)))
   refine s_stW rfl rfl rfl rfl hh3_ (by omega) Tryd.sizeOf3 (fun W4_ cur4_ hh4_ hs4_ hk4_ => ?_)
   refine Reg.nil (cw_regF ?_)
   refine p_add (n := ((k + 1 : Nat) : Int)) rfl rfl rfl ⟨by omega, by simp only [maxLen] at hm3_; rw [InK.i64]; omega⟩ ?_
   refine s_mv rfl rfl (Reg.nil ?_)
   exact ⟨rfl, k + 1, ⟨by omega, hDk_.step hk4_ hne3_ hh3_ hh4_ hs4_, hKk_.tail hk4_ (fun x hx => by
    obtain rfl : x = b3_ := by simpa using hx
    rw [hL0_, List.mem_range'_1]; omega)⟩, Sub.cons rfl (Sub.cons rfl (sb12 rfl rfl rfl rfl rfl rfl rfl rfl rfl rfl rfl rfl)), by omega⟩
  refine cw_exit (exB_same ?_)
  refine cw_regF ?_
  refine p_add (n := ((i + 1 : Nat) : Int)) rfl rfl rfl ⟨by omega, by have := RdS.inK hf120; rw [InK.i64] at this ⊢; omega⟩ ?_
  refine s_mv rfl rfl (Reg.nil ?_)
  exact ⟨rfl, i + 1, ⟨by omega, hDk_, hKk_⟩, sb11 rfl rfl rfl rfl rfl rfl rfl rfl rfl rfl rfl, by omega⟩
 have hK_ : Kp L0_ w133 w151 := hKi_
 have hAdv_ := Adv.scr ((Adv.of_ext e115).trans ((hI119.addOwnA e125 hf127).trans (hA135.trans (hI134.eraseH 0)))) hK_ (fun x hx => by rw [hL0_, List.mem_range'_1] at hx; omega)
 have hI152 := Hp.scr hI109 hI150 hK_ (fun x hx => by rw [hL0_, List.mem_range'_1] at hx; omega)
 refine cw_exit (exB_same ?_)
 refine cw_seq (cw_regF ?_)
 iterate 4 refine s_mv rfl rfl ?_
 obtain ⟨⟨z153, z154⟩, hz155, h⟩ := bnd h
 refine s_call rfl Tryd.call20 rfl ((C_account_State hI152.mlt (hG.adv hI152.adv) (hf11.adv ((Adv.of_ext e17).trans (x56.trans (x59.trans ((hI58.eraseH 0).trans ((Adv.of_ext e66).trans (x105.trans (x108.trans ((hI107.eraseH 0).trans hAdv_))))))))) f_id_0 f_day_0 f_known_0 hz155).mono ?_)
 rintro _ w156 ⟨v161, v166, v171, v176, v181, v186, rfl, r158, r159, r160, hf162, r163, r164, r165, hf167, r168, r169, r170, hf172, r173, r174, r175, hf177, r178, r179, r180, hf182, r183, r184, r185, hf187, r188, r189, r190, r191, e157⟩
 refine ⟨_, rfl, ?_⟩
 have hI192 := hI152.ext e157
 refine s_mv rfl rfl (s_xt rfl rfl rfl (s_xt rfl rfl rfl (y_al hI192 Tryd.zeroValue42 rfl rfl ?_)))
 intro b193 w194 hI195 x196
 refine y_st 0 hI195 rfl rfl rfl rfl Tryd.sizeOf42 rfl rfl (one1 rfl (one1 rfl (one1 rfl (one1 (RdS.oneC hf162) (one1 rfl (one1 rfl (one1 rfl (one1 (RdS.oneC hf167) (one1 rfl (one1 rfl (one1 rfl (one1 (RdS.oneC hf172) (one1 rfl (one1 rfl (one1 rfl (one1 (RdS.oneC hf177) (one1 rfl (one1 rfl (one1 rfl (one1 (RdS.oneC hf182) (one1 rfl (one1 rfl (one1 rfl (one1 (RdS.oneC hf187) (on3 rfl rfl rfl))))))))))))))))))))))))) ?_
 intro w197 hI198 x199
 have hC201 := hI198.freezeRow 0 rfl
 have hI200 := hI198.erase 0
 refine s_as rfl rfl (Reg.nil ?_)
 obtain ⟨j202, h203, h⟩ := bnd h
 refine cw_keep [0, 9, 12, 13, 18, 21, 22] rfl (cw_seqD 7 (ι := Bool) (fun x204 => [(8, Value.bool x204)]) (fun x204 => fun w205 => Hp w [] M [] w205 ∧ Adv (mm [] M) (mm [] M) w197 w205 ∧ x204 = j202) ?_ ?_)
 ·refine cw_regF (s_mv rfl rfl (s_mv rfl rfl (Reg.gsplit (t := 109) rfl (fun hg208 => ?_) (fun hg208 => ?_))))
  ·replace h203 := cdT hg208 h203
   refine Reg.take rfl rfl (s_lda rfl hC201.cells Tryd.isAgg42 rfl Tryd.sizeOf42 rfl (Reg.take rfl rfl (s_lda rfl (hC110.adv (hAdv_.trans ((Adv.of_ext e157).trans (x196.trans (x199.trans (hI198.eraseH 0)))))).cells Tryd.isAgg42 rfl Tryd.sizeOf42 rfl (Reg.take rfl rfl ?_))))
   obtain ⟨z209, hz210, h203⟩ := bnd h203
   refine s_call rfl Tryd.call24 rfl ((C_ref03_SameState (a := (State.mk (Told.mk z153.opened.known z153.opened.cents z153.opened.since z153.opened.by_) (Told.mk z153.limit.known z153.limit.cents z153.limit.since z153.limit.by_) (Told.mk z153.owed.known z153.owed.cents z153.owed.since z153.owed.by_) (Told.mk z153.late.known z153.late.cents z153.late.since z153.late.by_) (Told.mk z153.default.known z153.default.cents z153.default.since z153.default.by_) (Told.mk z153.closed.known z153.closed.cents z153.closed.since z153.closed.by_) (Span.mk z153.paid.lo z153.paid.hi) z153.is_)) (b := (State.mk (Told.mk z62.opened.known z62.opened.cents z62.opened.since z62.opened.by_) (Told.mk z62.limit.known z62.limit.cents z62.limit.since z62.limit.by_) (Told.mk z62.owed.known z62.owed.cents z62.owed.since z62.owed.by_) (Told.mk z62.late.known z62.late.cents z62.late.since z62.late.by_) (Told.mk z62.default.known z62.default.cents z62.default.since z62.default.by_) (Told.mk z62.closed.known z62.closed.cents z62.closed.since z62.closed.by_) (Span.mk z62.paid.lo z62.paid.hi) z62.is_)) hI200.mlt r158 r159 r160 (hf162.adv (x196.trans (x199.trans (hI198.eraseH 0)))) r163 r164 r165 (hf167.adv (x196.trans (x199.trans (hI198.eraseH 0)))) r168 r169 r170 (hf172.adv (x196.trans (x199.trans (hI198.eraseH 0)))) r173 r174 r175 (hf177.adv (x196.trans (x199.trans (hI198.eraseH 0)))) r178 r179 r180 (hf182.adv (x196.trans (x199.trans (hI198.eraseH 0)))) r183 r184 r185 (hf187.adv (x196.trans (x199.trans (hI198.eraseH 0)))) r188 r189 r190 r67 r68 r69 (hf71.adv (x105.trans (x108.trans ((hI107.eraseH 0).trans (hAdv_.trans ((Adv.of_ext e157).trans (x196.trans (x199.trans (hI198.eraseH 0))))))))) r72 r73 r74 (hf76.adv (x105.trans (x108.trans ((hI107.eraseH 0).trans (hAdv_.trans ((Adv.of_ext e157).trans (x196.trans (x199.trans (hI198.eraseH 0))))))))) r77 r78 r79 (hf81.adv (x105.trans (x108.trans ((hI107.eraseH 0).trans (hAdv_.trans ((Adv.of_ext e157).trans (x196.trans (x199.trans (hI198.eraseH 0))))))))) r82 r83 r84 (hf86.adv (x105.trans (x108.trans ((hI107.eraseH 0).trans (hAdv_.trans ((Adv.of_ext e157).trans (x196.trans (x199.trans (hI198.eraseH 0))))))))) r87 r88 r89 (hf91.adv (x105.trans (x108.trans ((hI107.eraseH 0).trans (hAdv_.trans ((Adv.of_ext e157).trans (x196.trans (x199.trans (hI198.eraseH 0))))))))) r92 r93 r94 (hf96.adv (x105.trans (x108.trans ((hI107.eraseH 0).trans (hAdv_.trans ((Adv.of_ext e157).trans (x196.trans (x199.trans (hI198.eraseH 0))))))))) r97 r98 r99 hz210).mono ?_)
   rintro _ w211 ⟨rfl, e212⟩
   refine ⟨_, rfl, ?_⟩
   have hI213 := hI200.ext e212
   refine s_pkT rfl rfl rfl (s_mv rfl rfl (Reg.gsplit (t := 114) rfl (fun hg214 => ?_) (fun hg214 => ?_)))
   ·replace h203 := cdT hg214 h203
    refine Reg.take rfl rfl (s_mv rfl rfl (Reg.take rfl rfl (s_mv rfl rfl (Reg.take rfl rfl (s_eql rfl rfl rfl (s_pkT rfl rfl rfl (s_mv rfl rfl (Reg.gsplit (t := 119) rfl (fun hg215 => ?_) (fun hg215 => ?_)))))))))
    ·replace h203 := cdT hg215 h203
     refine Reg.take rfl rfl (s_mv rfl rfl (Reg.take rfl rfl (s_mv rfl rfl (Reg.take rfl rfl ?_))))
     obtain ⟨z216, hz217, h203⟩ := bnd h203
     refine s_call rfl Tryd.call19 rfl ((C_ref03_SameReports hI213.mlt (hf11.adv ((Adv.of_ext e17).trans (x56.trans (x59.trans ((hI58.eraseH 0).trans ((Adv.of_ext e66).trans (x105.trans (x108.trans ((hI107.eraseH 0).trans (hAdv_.trans ((Adv.of_ext e157).trans (x196.trans (x199.trans ((hI198.eraseH 0).trans (Adv.of_ext e212))))))))))))))) (f_l_0.adv hI213.adv) hz217).mono ?_)
     rintro _ w218 ⟨rfl, e219⟩
     refine ⟨_, rfl, ?_⟩
     have hI220 := hI213.ext e219
     refine s_pkT rfl rfl rfl (s_as rfl rfl (Reg.nil ?_))
     obtain rfl := Option.some.inj h203
     refine ⟨rfl, z216, ⟨hI220, ((Adv.of_ext e212).trans (Adv.of_ext e219)), rfl⟩, sb1 rfl⟩
    replace h203 := cdF hg215 h203
    iterate 3 refine Reg.pass rfl rfl rfl rfl ?_
    refine s_pkF rfl rfl rfl (s_as rfl rfl (Reg.nil ?_))
    obtain rfl := Option.some.inj h203
    refine ⟨rfl, false, ⟨hI213, (Adv.of_ext e212), rfl⟩, sb1 rfl⟩
   replace h203 := cdF hg214 h203
   iterate 3 refine Reg.pass rfl rfl rfl rfl ?_
   refine s_pkF rfl rfl rfl (s_mv rfl rfl ?_)
   iterate 3 refine Reg.pass rfl rfl rfl rfl ?_
   refine s_pkF rfl rfl rfl (s_as rfl rfl (Reg.nil ?_))
   obtain rfl := Option.some.inj h203
   refine ⟨rfl, false, ⟨hI213, (Adv.of_ext e212), rfl⟩, sb1 rfl⟩
  replace h203 := cdF hg208 h203
  iterate 3 refine Reg.pass rfl rfl rfl rfl ?_
  refine s_pkF rfl rfl rfl (s_mv rfl rfl ?_)
  iterate 3 refine Reg.pass rfl rfl rfl rfl ?_
  refine s_pkF rfl rfl rfl (s_mv rfl rfl ?_)
  iterate 3 refine Reg.pass rfl rfl rfl rfl ?_
  refine s_pkF rfl rfl rfl (s_as rfl rfl (Reg.nil ?_))
  obtain rfl := Option.some.inj h203
  refine ⟨rfl, false, ⟨hI200, (Adv.refl _ _), rfl⟩, sb1 rfl⟩
 rintro x204 w205 ⟨hI206, hA207, rfl⟩
 refine cw_ret ?_
 obtain rfl := Option.some.inj h
 refine fin1 Tryd.results4 rfl ?_
 exact ⟨rfl, hI206.kp⟩
end Go.Proofs.YtepjkmoipjeghaaDoor
namespace Go.Proofs.YtepjkmoipjeghaaDoor
open Go Go.Sx
namespace S
theorem eta (r : Report) : Report.mk r.id r.source r.account r.made r.about r.kind r.cents r.of_ = r := rfl
theorem etaT (r : Told) : Told.mk r.known r.cents r.since r.by_ = r := rfl
/-! What facts are like. -/
structure FO (F : List Report) : Prop where
  s : F.Pairwise le
  nd : (F.map (·.id)).Nodup
  len : F.length ≤ 60
  k : ∀ r ∈ F, 1 ≤ r.kind ∧ r.kind ≤ 7
  c : ∀ r ∈ F, 0 ≤ r.cents ∧ r.cents ≤ 1000000000000
  a : ∀ r ∈ F, 0 ≤ r.about ∧ r.about ≤ 100000
theorem FO.sub {F G : List Report} (h : FO F) (hs : G.Sublist F) : FO G :=
  ⟨h.s.sublist hs, (hs.map _).nodup h.nd, Nat.le_trans hs.length_le h.len, fun r hr => h.k r (hs.subset hr), fun r hr => h.c r (hs.subset hr), fun r hr => h.a r (hs.subset hr)⟩
theorem FO.filter {F : List Report} (h : FO F) (p : Report → Bool) : FO (F.filter p) := h.sub List.filter_sublist
/-- The Ids of reports, in order. -/
def sid (L : List Report) : List Int := (L.map (·.id)).mergeSort fun a b => decide (a ≤ b)
theorem sid_is {L : List Report} {S : List Int} (h : S.Perm (L.map (·.id))) (hs : S.Pairwise (· ≤ ·)) : S = sid L := by
  have h1 : (sid L).Pairwise (· ≤ ·) := (List.pairwise_mergeSort (fun a b c h1 h2 => by simp at *; omega) (fun a b => by simp; omega) _).imp fun h => of_decide_eq_true h
  exact List.Perm.eq_of_pairwise (fun a b _ _ h1 h2 => by omega) hs h1 (h.trans (List.mergeSort_perm _ _).symm)
theorem sid_perm (L : List Report) : (sid L).Perm (L.map (·.id)) := List.mergeSort_perm _ _
theorem sid_sorted (L : List Report) : (sid L).Pairwise (· ≤ ·) := (List.pairwise_mergeSort (fun a b c h1 h2 => by simp at *; omega) (fun a b => by simp; omega) _).imp fun h => of_decide_eq_true h
theorem sid_len (L : List Report) : (sid L).length = L.length := by rw [(sid_perm L).length_eq, List.length_map]
/-- Whether a fact tells what the first one tells. -/
def ag (only : Bool) (f r : Report) : Bool := decide (r.cents = f.cents) && (!only || decide (r.about = f.about))
def told (only : Bool) : List Report → Told
  | [] => ⟨0, 0, 0, []⟩
  | f :: r => if (f :: r).all (ag only f) then ⟨2, f.cents, f.about, sid (f :: r)⟩ else ⟨1, 0, f.about, sid (f :: r)⟩
theorem told_cons {only : Bool} {f : Report} {r : List Report} : told only (f :: r) = if (f :: r).all (ag only f) then ⟨2, f.cents, f.about, sid (f :: r)⟩ else ⟨1, 0, f.about, sid (f :: r)⟩ := rfl
def fk (F : List Report) (k : Int) : List Report := F.filter fun r => decide (r.kind = k)
def grp (L : List Report) (d : Int) : List Report := L.filter fun r => decide (r.about = d)
def lastT (L : List Report) : Told := match L.getLast? with
  | none => told false []
  | some z => told false (grp L z.about)
/-! The program. -/
theorem cmp_neg {x y : Int} : cmpI x y < 0 ↔ x < y := by unfold cmpI; split <;> (try split) <;> omega
theorem p_ord1 {a b : Report} : P.account_ordered_api_Report_in1 a b [76] = some (cmpI a.id b.id) := by
  obtain ⟨z, h1, h2⟩ : Ret (P.account_ordered_api_Report_in1 a b [76]) fun z => z = cmpI a.id b.id := by
    unfold P.account_ordered_api_Report_in1
    have g2 : ∀ r : Report, P.fn135 76 (Report.mk r.id r.source r.account r.made r.about r.kind r.cents r.of_) = some r.id := fun r => rfl
    refine Ret.bind (Ret.loop (fun t : Int => t = 0 ∨ t = 1 ∧ cmpI a.id b.id = 0) (fun t => 2 - t.toNat) (.inl rfl) ?_)
    rintro _ (rfl | ⟨rfl, h1⟩)
    · refine Ret.condT rfl (Ret.bind (Ret.val (show ixo [76] 0 = some 76 from rfl) (Ret.bind (Ret.val (g2 a) (Ret.bind (Ret.val (g2 b) (Ret.bind (Ret.val p_cmp ?_))))))))
      by_cases c : cmpI a.id b.id = 0
      · rw [decide_eq_true c]
        exact Ret.condF rfl (Ret.bind (Ret.chk (by omega) (Ret.next ⟨.inr ⟨rfl, c⟩, by decide⟩)))
      · rw [decide_eq_false c]
        exact Ret.condT rfl (Ret.done (Ret.elimR (Ret.ok rfl)))
    · exact Ret.condF rfl (Ret.done (Ret.elimL (Ret.ok h1.symm)))
  rw [h1, h2]
theorem r_ordered1 {x : List Report} (hn : (x.map (·.id)).Nodup) (hl : x.length ≤ 1000000) {Q : List Report → Prop} (h : ∀ out, out.Perm x → out.Pairwise (fun a b => a.id ≤ b.id) → Q out) : Ret (P.account_ordered_74 x [76]) Q := by
  unfold P.account_ordered_74
  have one : ∀ a b, a ∈ x → b ∈ x → a.id = b.id → a = b := fun a b ha hb e => by
    obtain ⟨i, hi⟩ := List.getElem?_of_mem ha
    obtain ⟨j, hj⟩ := List.getElem?_of_mem hb
    have hi' : (x.map (·.id))[i]? = some a.id := by simp [hi]
    have hj' : (x.map (·.id))[j]? = some a.id := by simp [hj, e]
    have : i = j := (List.getElem?_inj (get_lt hi') hn).1 (hi'.trans hj'.symm)
    subst this
    rw [hi] at hj
    exact Option.some.inj hj
  have hok : SortOk x (fun x0_ x1_ => P.account_ordered_api_Report_in1 x0_ x1_ [76]) fun a b => cmpI a.id b.id := by
    refine ⟨fun a b _ _ => p_ord1, ⟨fun a => ?_, fun a b c h1 h2 => ?_, fun a b c h1 h2 => ?_⟩, fun a b ha hb h1 h2 => ?_⟩
    · show decide (cmpI a.1.id a.1.id < 0) = false
      rw [decide_eq_false_iff_not, cmp_neg]; omega
    · have h1 := of_decide_eq_true h1
      have h2 := of_decide_eq_true h2
      refine decide_eq_true ?_
      rw [cmp_neg] at *
      omega
    · have h1 := of_decide_eq_false h1
      have h2 := of_decide_eq_false h2
      refine decide_eq_false ?_
      rw [cmp_neg] at *
      omega
    · rw [cmp_neg] at h1 h2
      exact one a b ha hb (by omega)
  have hex : x.length < 4611686018427387904 ∧ ∃ cf, SortOk x (fun x0_ x1_ => P.account_ordered_api_Report_in1 x0_ x1_ [76]) cf := ⟨by omega, _, hok⟩
  have hs : P.slices_SortFunc_93 x (fun x0_ x1_ => P.account_ordered_api_Report_in1 x0_ x1_ [76]) = some (x.mergeSort fun a b => !decide (hex.2.choose b a < 0)) := by
    unfold P.slices_SortFunc_93
    rw [dif_pos hex]
  refine Ret.bind (Ret.val hs (Ret.ok (h _ (List.mergeSort_perm _ _) ?_)))
  have hsp := hex.2.choose_spec.1
  have hm := List.map_mergeSort (r := fun a b => !decide (hex.2.choose b a < 0)) (s := fun a b => !decide (cmpI b.id a.id < 0)) (f := id) (l := x) fun a ha b hb => by
    have h1 : P.account_ordered_api_Report_in1 b a [76] = some _ := hsp b a hb ha
    rw [p_ord1] at h1
    rw [← Option.some.inj h1]; rfl
  simp only [List.map_id] at hm
  rw [hm]
  have hle : ∀ a b : Report, (!decide (cmpI b.id a.id < 0)) = true ↔ a.id ≤ b.id := fun a b => by
    rw [Bool.not_eq_true', decide_eq_false_iff_not, cmp_neg]
    omega
  refine (List.pairwise_mergeSort (fun a b c h1 h2 => ?_) (fun a b => ?_) x).imp fun h => (hle _ _).1 h
  · rw [hle] at *; omega
  · rw [Bool.or_eq_true, hle, hle]; omega
theorem p_clone {s : List Report} (hl : s.length ≤ 1000000) {Q : List Report → Prop} (h : Q s) : Ret (P.slices_Clone_90 s) Q := by
  have h1 : P.slices_Clone_90 s = some s := by
    unfold P.slices_Clone_90
    have h2 : appo 64 ([] : List Report) s = some s := appo_ok (xs := ([] : List Report)) (by simp; omega) (by simp; omega)
    refine nilq_same (fun h => ?_) ?_
    · subst h; rfl
    · show Option.bind (appo 64 ([] : List Report) s) (fun l7 => some l7) = some s
      rw [h2, bindS]
  exact ⟨s, h1, h⟩
theorem r_ids {L : List Report} (hn : (L.map (·.id)).Nodup) (hl : L.length ≤ 1000000) {Q : List Int → Prop} (h : Q (sid L)) : Ret (P.account_ids L) Q := by
  unfold P.account_ids
  refine Ret.bind (p_clone hl (Ret.bind (r_ordered1 hn hl fun out hp hs => ?_)))
  have hlen := hp.length_eq
  refine Ret.bind (Ret.loop (fun t : List Int × Int => ∃ n : Nat, t.2 = n ∧ n ≤ out.length ∧ t.1 = (out.take n).map (·.id)) (fun t => out.length - t.2.toNat) ⟨0, rfl, Nat.zero_le _, rfl⟩ ?_)
  rintro ⟨X, _⟩ ⟨n, rfl, hn', hX⟩
  dsimp only at hX ⊢
  refine Ret.cond (fun h1 => ?_) fun h1 => ?_
  · have hlt : n < out.length := by have := of_decide_eq_true h1; omega
    refine Ret.bind (Ret.ixo (List.getElem?_eq_getElem hlt) (Ret.bind (Ret.appo ?_ ?_ (Ret.bind (Ret.chk (by omega) (Ret.next ⟨⟨n + 1, by dsimp only; omega, by omega, ?_⟩, by dsimp only; omega⟩))))))
    · rw [hX]; simp; omega
    · rw [hX]; simp; omega
    · dsimp only
      rw [hX, List.take_add_one, List.getElem?_eq_getElem hlt, List.map_append]; rfl
  · have : n = out.length := by have := of_decide_eq_false h1; omega
    subst this
    refine Ret.done (Ret.ok ?_)
    rw [hX, List.take_length, sid_is (L := L) (S := out.map (·.id)) (hp.map _) (List.pairwise_map.2 hs)]
    exact h
theorem p_in1 {r f : Report} {only : Bool} : P.account_told_in1 r f only = some (ag only f r) := by
  unfold P.account_told_in1 ag
  by_cases h : r.cents = f.cents <;> cases only <;> simp [h]
theorem r_told {L : List Report} (hn : (L.map (·.id)).Nodup) (hl : L.length ≤ 1000000) {only : Bool} {Q : Told → Prop} (h : Q (told only L)) : Ret (P.account_told L only) Q := by
  unfold P.account_told
  cases L with
  | nil => exact Ret.condT (by simp) (Ret.ok h)
  | cons f L =>
    refine Ret.condF (decide_eq_false (by simp; omega)) (Ret.bind (Ret.ixo (i := 0) (y := f) rfl (Ret.bind (r_ids hn hl ?_))))
    refine Ret.bind (Ret.loop (fun t : Int × Int × Int => ∃ n : Nat, t.1 = n ∧ n ≤ (f :: L).length ∧ t.2 = if ((f :: L).take n).all (ag only f) then (2, f.cents) else (1, 0)) (fun t => (f :: L).length - t.1.toNat) ⟨0, rfl, Nat.zero_le _, by simp⟩ ?_)
    rintro ⟨_, a, b⟩ ⟨n, rfl, hn', hX⟩
    dsimp only at hX ⊢
    refine Ret.cond (fun h1 => ?_) fun h1 => ?_
    · have hlt : n < (f :: L).length := by have := of_decide_eq_true h1; omega
      refine Ret.bind (Ret.bind (Ret.ixo (List.getElem?_eq_getElem hlt) ?_))
      rw [eta, eta, p_in1, bindS]
      have hst : ((f :: L).take (n + 1)).all (ag only f) = (((f :: L).take n).all (ag only f) && ag only f (f :: L)[n]) := by
        rw [List.take_add_one, List.getElem?_eq_getElem hlt, List.all_append]; simp
      have fin : ∀ y : Int × Int, y = (if ((f :: L).take (n + 1)).all (ag only f) then (2, f.cents) else (1, 0)) → Ret (Option.bind (chk .i64 ((n : Int) + 1)) fun n111 => some (Sum.inl (n111, y.1, y.2) : (Int × Int × Int) ⊕ (Int × Int))) (Nxt (fun s' : Int × Int × Int => (∃ n : Nat, s'.1 = n ∧ n ≤ (f :: L).length ∧ s'.2 = if ((f :: L).take n).all (ag only f) then (2, f.cents) else (1, 0)) ∧ (f :: L).length - s'.1.toNat < (f :: L).length - (n : Int).toNat) fun a => Ret (some (Told.mk a.1 a.2 f.about (sid (f :: L)))) Q) := fun y hy =>
        Ret.bind (Ret.chk (by omega) (Ret.next ⟨⟨n + 1, by dsimp only; omega, by omega, hy⟩, by dsimp only; omega⟩))
      refine Ret.bind (Ret.cond (fun h2 => Ret.ok (Ret.ok (fin (1, 0) ?_))) fun h2 => Ret.ok (Ret.ok (fin (a, b) ?_)))
      · have h2 : ag only f (f :: L)[n] = false := by simpa using h2
        rw [hst, h2, Bool.and_false]; rfl
      · have h2 : ag only f (f :: L)[n] = true := by simpa using h2
        rw [hst, h2, Bool.and_true]; exact hX
    · have : n = (f :: L).length := by have := of_decide_eq_false h1; omega
      subst this
      refine Ret.done (Ret.ok ?_)
      rw [List.take_length] at hX
      rw [told_cons] at h
      split at hX
      · rename_i hc
        rw [if_pos hc] at h
        cases hX; exact h
      · rename_i hc
        rw [if_neg hc] at h
        cases hX; exact h
theorem r_of {F : List Report} (hl : F.length ≤ 1000000) {k : Int} {Q : List Report → Prop} (h : Q (fk F k)) : Ret (P.account_book_of (Book.mk F) k) Q := by
  unfold P.account_book_of
  refine Ret.bind (Ret.loop (fun t : List Report × Int => ∃ n : Nat, t.2 = n ∧ n ≤ F.length ∧ t.1 = fk (F.take n) k) (fun t => F.length - t.2.toNat) ⟨0, rfl, Nat.zero_le _, rfl⟩ ?_)
  rintro ⟨X, _⟩ ⟨n, rfl, hn', hX⟩
  dsimp only at hX ⊢
  refine Ret.cond (fun h1 => ?_) fun h1 => ?_
  · have hlt : n < F.length := by have := of_decide_eq_true h1; omega
    have hXl : X.length ≤ n := by
      rw [hX]
      refine Nat.le_trans (List.length_filter_le _ _) ?_
      rw [List.length_take]; omega
    have hst : fk (F.take (n + 1)) k = fk (F.take n) k ++ if F[n].kind = k then [F[n]] else [] := by
      unfold fk
      rw [List.take_add_one, List.getElem?_eq_getElem hlt, List.filter_append]
      by_cases c : F[n].kind = k <;> simp [c]
    refine Ret.bind (Ret.bind (Ret.ixo (List.getElem?_eq_getElem hlt) (Ret.bind (Ret.cond (fun h2 => Ret.bind (Ret.appo (by simp; omega) (by simp; omega) (Ret.ok (Ret.ok (Ret.bind (Ret.chk (by omega) (Ret.next ⟨⟨n + 1, by dsimp only; omega, by omega, ?_⟩, by dsimp only; omega⟩))))))) fun h2 => Ret.ok (Ret.ok (Ret.bind (Ret.chk (by omega) (Ret.next ⟨⟨n + 1, by dsimp only; omega, by omega, ?_⟩, by dsimp only; omega⟩))))))))
    · dsimp only
      rw [hst, if_pos (of_decide_eq_true h2), hX]
    · dsimp only
      rw [hst, if_neg (of_decide_eq_false h2), hX, List.append_nil]
  · have : n = F.length := by have := of_decide_eq_false h1; omega
    subst this
    refine Ret.done (Ret.ok ?_)
    rw [hX, List.take_length]; exact h
theorem r_once {F : List Report} (hF : FO F) {k : Int} {Q : Told → Prop} (h : Q (told true (fk F k))) : Ret (P.account_book_once (Book.mk F) k) Q := by
  unfold P.account_book_once
  have := hF.len
  have hf := hF.filter fun r => decide (r.kind = k)
  have := hf.len
  exact Ret.bind (r_of (F := F) (by omega) (Ret.bind (r_told hf.nd (by omega) (Ret.ok h))))
end S
end Go.Proofs.YtepjkmoipjeghaaDoor
namespace Go.Proofs.YtepjkmoipjeghaaDoor
open Go Go.Sx
namespace S
theorem r_idx {s : List Report} {f : Report → Option Bool} {g : Report → Bool} (h : ∀ x ∈ s, f x = some (g x)) (hl : s.length ≤ 1000000) {Q : Int → Prop} (h1 : (∀ x ∈ s, g x = false) → Q (-1)) (h2 : ∀ (n : Nat) (hn : n < s.length), g s[n] = true → (∀ x ∈ s.take n, g x = false) → Q n) : Ret (P.slices_IndexFunc_58 s f) Q := by
  unfold P.slices_IndexFunc_58
  refine Ret.bind (Ret.loop (fun t : Int => ∃ n : Nat, t = n ∧ n ≤ s.length ∧ ∀ x ∈ s.take n, g x = false) (fun t => s.length - t.toNat) ⟨0, rfl, Nat.zero_le _, fun x hx => by simp at hx⟩ ?_)
  rintro _ ⟨n, rfl, hn, hp⟩
  refine Ret.cond (fun h3 => ?_) fun h3 => ?_
  · have hlt : n < s.length := by have := of_decide_eq_true h3; omega
    have hy := List.getElem?_eq_getElem hlt
    refine Ret.bind (Ret.ixo hy (Ret.bind (Ret.val (h _ (List.getElem_mem hlt)) ?_)))
    refine Ret.cond (fun h4 => ?_) fun h4 => ?_
    · exact Ret.done (Ret.elimR (Ret.ok (h2 n hlt h4 hp)))
    · refine Ret.bind (Ret.chk (by omega) (Ret.next ⟨⟨n + 1, by omega, by omega, fun x hx => ?_⟩, by omega⟩))
      rcases (take_mem hlt).1 hx with hx | hx
      · exact hp x hx
      · rw [hx]; exact h4
  · have hge : n = s.length := by have := of_decide_eq_false h3; omega
    subst hge
    rw [List.take_length] at hp
    exact Ret.done (Ret.elimL (Ret.ok (h1 hp)))
theorem r_del {s : List Report} {f : Report → Option Bool} {g : Report → Bool} (h : ∀ x ∈ s, f x = some (g x)) (hl : s.length ≤ 1000000) {Q : List Report → Prop} (hQ : Q (s.filter fun x => !g x)) : Ret (P.slices_DeleteFunc_95 s f) Q := by
  unfold P.slices_DeleteFunc_95
  refine Ret.bind (r_idx h hl (fun h1 => ?_) fun n hn h1 h2 => ?_)
  · refine Ret.condT rfl (Ret.ok ?_)
    rw [List.filter_eq_self.2 fun x hx => by rw [h1 x hx]; rfl] at hQ
    exact hQ
  · refine Ret.condF (decide_eq_false (by omega)) (Ret.bind (Ret.chk (by omega) ?_))
    have h0 : s.take n = (s.take (n + 1)).filter fun x => !g x := by
      rw [List.take_add_one, List.getElem?_eq_getElem hn, List.filter_append, List.filter_eq_self.2 fun x hx => by rw [h2 x hx]; rfl]
      simp [h1]
    refine Ret.bind (Ret.loop (fun t : Int × Int × List Report => ∃ i j : Nat, t.1 = i ∧ t.2.1 = j ∧ i ≤ j ∧ j ≤ s.length ∧ t.2.2.length = s.length ∧ t.2.2.drop j = s.drop j ∧ t.2.2.take i = (s.take j).filter fun x => !g x) (fun t => s.length - t.2.1.toNat) ⟨n, n + 1, rfl, rfl, by omega, by omega, rfl, rfl, h0⟩ ?_)
    rintro ⟨_, _, X⟩ ⟨i, j, rfl, rfl, hij, hj, hX, hd, ht⟩
    dsimp only at hX hd ht ⊢
    refine Ret.cond (fun h3 => ?_) fun h3 => ?_
    · have hlt : j < s.length := by have := of_decide_eq_true h3; omega
      have hXj : X[j]? = some s[j] := by
        have := congrArg (fun l : List Report => l[0]?) hd
        simp only [List.getElem?_drop, Nat.add_zero] at this
        rw [this, List.getElem?_eq_getElem hlt]
      have hst : (s.take (j + 1)).filter (fun x => !g x) = (s.take j).filter (fun x => !g x) ++ if g s[j] then [] else [s[j]] := by
        rw [List.take_add_one, List.getElem?_eq_getElem hlt, List.filter_append]
        cases c : g s[j] <;> simp [c]
      have hd' : X.drop (j + 1) = s.drop (j + 1) := by rw [← List.drop_drop, hd, List.drop_drop]
      refine Ret.bind (Ret.bind (Ret.ixo hXj (Ret.bind (Ret.val (h _ (List.getElem_mem hlt)) (Ret.bind ?_)))))
      refine Ret.cond (fun h4 => ?_) fun h4 => ?_
      · have hXi : X[i]? = some (X[i]'(by omega)) := List.getElem?_eq_getElem (by omega)
        refine Ret.bind (Ret.ixo hXi (Ret.bind (Ret.seto (by omega) (Ret.bind (Ret.chk (by omega) (Ret.ok (Ret.ok (Ret.bind (Ret.chk (by omega) (Ret.next ⟨⟨i + 1, j + 1, by dsimp only; omega, by dsimp only; omega, by omega, by omega, (by rw [List.length_set]; exact hX), ?_, ?_⟩, by dsimp only; omega⟩))))))))))
        · rw [List.drop_set_of_lt (by omega)]; exact hd'
        · have h5 : g s[j] = false := by simpa using h4
          rw [hst, h5, List.take_add_one, List.getElem?_set_self (by omega), List.take_set_of_le (by omega), ht]; rfl
      · have h5 : g s[j] = true := by simpa using h4
        refine Ret.ok (Ret.ok (Ret.bind (Ret.chk (by omega) (Ret.next ⟨⟨i, j + 1, rfl, by dsimp only; omega, by omega, by omega, hX, hd', ?_⟩, by dsimp only; omega⟩))))
        rw [hst, h5, ht]; simp
    · have hge : j = s.length := by have := of_decide_eq_false h3; omega
      subst hge
      refine Ret.done ?_
      dsimp only
      rw [List.take_length] at ht
      refine Ret.bind (Ret.val (by unfold cutLo; rw [if_pos ⟨by omega, by omega⟩]) (Ret.bind (Ret.val (by unfold cutHi; rw [if_pos ⟨by omega, by simp; omega⟩]) (Ret.ok ?_))))
      rw [show ((i : Int).toNat) = i from rfl, List.take_append_of_le_length (by rw [List.length_take]; omega), List.take_take, Nat.min_self, ht]
      exact hQ
theorem le_last {L : List Report} (hs : L.Pairwise le) {n : Nat} (hn : n + 1 = L.length) {r : Report} (hr : r ∈ L) : r.about ≤ (L[n]'(by omega)).about := by
  obtain ⟨i, hi⟩ := List.getElem?_of_mem hr
  have hlt := get_lt hi
  obtain rfl : L[i] = r := by rw [List.getElem?_eq_getElem hlt] at hi; exact Option.some.inj hi
  rcases Nat.lt_or_ge i n with h | h
  · have := List.pairwise_iff_getElem.1 hs i n hlt (by omega) h
    unfold le at this; omega
  · have : i = n := by omega
    subst this; exact Int.le_refl _
theorem r_last {F : List Report} (hF : FO F) {k : Int} {Q : Told → Prop} (h : Q (lastT (fk F k))) : Ret (P.account_book_last (Book.mk F) k) Q := by
  unfold P.account_book_last
  have := hF.len
  have hf : FO (fk F k) := hF.filter _
  have := hf.len
  refine Ret.bind (r_of (F := F) (by omega) (Ret.cond (fun h1 => ?_) fun h1 => ?_))
  · have : fk F k = [] := List.eq_nil_of_length_eq_zero (by have := of_decide_eq_true h1; omega)
    rw [this] at h
    exact Ret.ok h
  · have h2 := of_decide_eq_false h1
    obtain ⟨n, hn⟩ : ∃ n, n + 1 = (fk F k).length := ⟨(fk F k).length - 1, by omega⟩
    have hg : (fk F k)[n]? = some ((fk F k)[n]'(by omega)) := List.getElem?_eq_getElem (by omega)
    rw [show ((fk F k).length : Int) - 1 = (n : Int) by omega]
    refine Ret.bind (Ret.chk (by omega) (Ret.bind (Ret.ixo hg (Ret.bind (r_del (g := fun r => decide (r.about < ((fk F k)[n]'(by omega)).about)) (fun x _ => rfl) (by omega) ?_)))))
    have h3 : ((fk F k).filter fun x => !decide (x.about < ((fk F k)[n]'(by omega)).about)) = grp (fk F k) ((fk F k)[n]'(by omega)).about := by
      refine List.filter_congr fun r hr => ?_
      have := le_last hf.s hn hr
      rw [Bool.eq_iff_iff]; simp; omega
    rw [h3]
    have hgF : FO (grp (fk F k) ((fk F k)[n]'(by omega)).about) := hf.filter _
    have := hgF.len
    refine Ret.bind (r_told hgF.nd (by omega) (Ret.ok ?_))
    unfold lastT at h
    rw [List.getLast?_eq_getElem?, show (fk F k).length - 1 = n by omega, hg] at h
    exact h
/-! Days. -/
def dl (L : List Report) : List Int := L.foldl (fun acc r => if r.about ∈ acc then acc else acc ++ [r.about]) []
theorem dl_snoc (L : List Report) (r : Report) : dl (L ++ [r]) = if r.about ∈ dl L then dl L else dl L ++ [r.about] := by
  unfold dl; rw [List.foldl_append]; rfl
theorem dl_go : ∀ (L : List Report) (acc : List Int), acc.Nodup → (L.foldl (fun acc r => if r.about ∈ acc then acc else acc ++ [r.about]) acc).Nodup ∧ (∀ d, d ∈ L.foldl (fun acc r => if r.about ∈ acc then acc else acc ++ [r.about]) acc ↔ d ∈ acc ∨ ∃ r ∈ L, r.about = d) ∧ (L.foldl (fun acc r => if r.about ∈ acc then acc else acc ++ [r.about]) acc).length ≤ acc.length + L.length
  | [], acc, h => ⟨h, fun d => by simp, by simp⟩
  | r :: L, acc, h => by
    rw [List.foldl_cons]
    by_cases c : r.about ∈ acc
    · rw [if_pos c]
      obtain ⟨h1, h2, h3⟩ := dl_go L acc h
      refine ⟨h1, fun d => ?_, by simp; omega⟩
      rw [h2]
      constructor
      · rintro (h | ⟨x, hx, e⟩)
        · exact .inl h
        · exact .inr ⟨x, List.mem_cons_of_mem _ hx, e⟩
      · rintro (h | ⟨x, hx, e⟩)
        · exact .inl h
        · rcases List.mem_cons.1 hx with rfl | hx
          · exact .inl (e ▸ c)
          · exact .inr ⟨x, hx, e⟩
    · rw [if_neg c]
      obtain ⟨h1, h2, h3⟩ := dl_go L (acc ++ [r.about]) (List.nodup_append.2 ⟨h, by simp, fun a ha b hb e => by
        have : b = r.about := by simpa using hb
        exact c (by rw [← this, ← e]; exact ha)⟩)
      refine ⟨h1, fun d => ?_, by simp at h3 ⊢; omega⟩
      rw [h2, List.mem_append, List.mem_singleton]
      constructor
      · rintro ((h | rfl) | ⟨x, hx, e⟩)
        · exact .inl h
        · exact .inr ⟨r, List.mem_cons_self .., rfl⟩
        · exact .inr ⟨x, List.mem_cons_of_mem _ hx, e⟩
      · rintro (h | ⟨x, hx, e⟩)
        · exact .inl (.inl h)
        · rcases List.mem_cons.1 hx with rfl | hx
          · exact .inl (.inr e.symm)
          · exact .inr ⟨x, hx, e⟩
theorem dl_nd (L : List Report) : (dl L).Nodup := (dl_go L [] List.nodup_nil).1
theorem dl_mem {L : List Report} {d : Int} : d ∈ dl L ↔ ∃ r ∈ L, r.about = d := by
  unfold dl; rw [(dl_go L [] List.nodup_nil).2.1]; simp
theorem dl_len (L : List Report) : (dl L).length ≤ L.length := by
  have := (dl_go L [] List.nodup_nil).2.2
  unfold dl; simpa using this
/-! Payments. -/
/-- What a source tells of a day. -/
def sumL (L : List Report) (d s : Int) : Int := ((L.filter fun r => decide (r.about = d) && decide (r.source = s)).map (·.cents)).sum
theorem sumL_snoc (L : List Report) (r : Report) (d s : Int) : sumL (L ++ [r]) d s = sumL L d s + if r.about = d ∧ r.source = s then r.cents else 0 := by
  unfold sumL
  rw [List.filter_append, List.map_append, List.sum_append]
  congr 1
  by_cases c : r.about = d ∧ r.source = s
  · rw [if_pos c]; simp [c.1, c.2]
  · rw [if_neg c]
    have : (decide (r.about = d) && decide (r.source = s)) = false := by
      rw [Bool.eq_false_iff]; intro h; apply c; simpa using h
    simp [List.filter_cons, this]
theorem sum_bd : ∀ (L : List Report), (∀ r ∈ L, 0 ≤ r.cents ∧ r.cents ≤ 1000000000000) → 0 ≤ (L.map (·.cents)).sum ∧ (L.map (·.cents)).sum ≤ L.length * 1000000000000
  | [], _ => by simp
  | r :: L, h => by
    have h1 := sum_bd L fun x hx => h x (List.mem_cons_of_mem _ hx)
    have h2 := h r (List.mem_cons_self ..)
    simp only [List.map_cons, List.sum_cons, List.length_cons]
    omega
theorem sumL_bd {L : List Report} (h : ∀ r ∈ L, 0 ≤ r.cents ∧ r.cents ≤ 1000000000000) (d s : Int) : 0 ≤ sumL L d s ∧ sumL L d s ≤ L.length * 1000000000000 := by
  have h1 := sum_bd (L.filter fun r => decide (r.about = d) && decide (r.source = s)) fun r hr => h r (List.mem_filter.1 hr).1
  have h2 : (L.filter fun r => decide (r.about = d) && decide (r.source = s)).length ≤ L.length := List.length_filter_le _ _
  unfold sumL
  omega
/-- The least and the greatest of what sources tell of a day. -/
def Pd (L : List Report) (d : Int) (sp : Span) : Prop := (∃ r ∈ grp L d, sumL L d r.source = sp.lo) ∧ (∃ r ∈ grp L d, sumL L d r.source = sp.hi) ∧ ∀ r ∈ grp L d, sp.lo ≤ sumL L d r.source ∧ sumL L d r.source ≤ sp.hi
theorem Pd.uniq {L : List Report} {d : Int} {a b : Span} (h : Pd L d a) (k : Pd L d b) : a = b := by
  obtain ⟨⟨r1, h1, e1⟩, ⟨r2, h2, e2⟩, h3⟩ := h
  obtain ⟨⟨s1, k1, f1⟩, ⟨s2, k2, f2⟩, k3⟩ := k
  have a1 := k3 r1 h1
  have a2 := k3 r2 h2
  have a3 := h3 s1 k1
  have a4 := h3 s2 k2
  cases a; cases b
  simp only [Span.mk.injEq] at *
  omega
open Classical in
noncomputable def pd (L : List Report) (d : Int) : Span := if h : ∃ sp, Pd L d sp then h.choose else ⟨0, 0⟩
theorem pd_is {L : List Report} {d : Int} {sp : Span} (h : Pd L d sp) : pd L d = sp := by
  unfold pd
  rw [dif_pos ⟨sp, h⟩]
  exact (Exists.choose_spec (⟨sp, h⟩ : ∃ sp, Pd L d sp)).uniq h
theorem foldM_inv2 {S β : Type} {f : S → β → Option S} (I : List β → S → Prop) : ∀ (l pre : List β) (s : S), I pre s → (∀ p x q s, l = p ++ x :: q → I (pre ++ p) s → ∃ s', f s x = some s' ∧ I (pre ++ p ++ [x]) s') → ∃ s', l.foldlM f s = some s' ∧ I (pre ++ l) s'
  | [], pre, s, h, _ => ⟨s, rfl, by simpa using h⟩
  | x :: l, pre, s, h, hs => by
    obtain ⟨s1, h1, h2⟩ := hs [] x l s rfl (by simpa using h)
    obtain ⟨s2, h3, h4⟩ := foldM_inv2 I l (pre ++ [x]) s1 (by simpa using h2) fun p y q s e hI => by
      obtain ⟨s', g1, g2⟩ := hs (x :: p) y q s (by rw [e]; rfl) (by simpa using hI)
      exact ⟨s', g1, by simpa using g2⟩
    refine ⟨s2, ?_, by simpa using h4⟩
    rw [List.foldlM_cons, h1]; exact h3
theorem Lists.putX {κ α : Type} [DecidableEq κ] {f : FMap κ α} {l : List (κ × α)} (h : Lists f l) (a : κ) (z : α) : ∃ l', Lists (fput f a z) l' := by
  by_cases c : ∃ x ∈ l, x.1 = a
  · obtain ⟨⟨a', y⟩, hx, rfl⟩ := c
    obtain ⟨j, hj⟩ := List.getElem?_of_mem hx
    exact ⟨_, h.set hj z⟩
  · exact ⟨_, h.push z fun x hx e => c ⟨x, hx, e⟩⟩
/-- The days on which something was paid, with what. -/
def DaysR (L : List Report) (m : FMap Int Span) : Prop := ∀ d sp, m d = some sp ↔ (∃ r ∈ L, r.about = d) ∧ sp = pd L d
theorem DaysR.lists {L : List Report} {m : FMap Int Span} (h : DaysR L m) : Lists m ((dl L).map fun d => (d, pd L d)) := by
  refine ⟨?_, fun d sp => ?_⟩
  · rw [List.map_map]
    exact (List.map_id _).symm ▸ dl_nd L
  · rw [h, List.mem_map]
    constructor
    · rintro ⟨d', hd, e⟩; cases e; exact ⟨dl_mem.1 hd, rfl⟩
    · rintro ⟨hd, rfl⟩; exact ⟨d, dl_mem.2 hd, rfl⟩
/-- What is told by some entries of a day. -/
def PdE (l : List (Payer × Int)) (d : Int) (sp : Span) : Prop := (∃ e ∈ l, e.1.day = d ∧ e.2 = sp.lo) ∧ (∃ e ∈ l, e.1.day = d ∧ e.2 = sp.hi) ∧ ∀ e ∈ l, e.1.day = d → sp.lo ≤ e.2 ∧ e.2 ≤ sp.hi
theorem PdE.ex {l : List (Payer × Int)} {d : Int} {sp : Span} (h : PdE l d sp) : ∃ e ∈ l, e.1.day = d := by
  obtain ⟨⟨e, he, h1, _⟩, _⟩ := h; exact ⟨e, he, h1⟩
theorem r_paid {F : List Report} (hF : FO F) {Q : FMap Int Span → Prop} (h : ∀ m, DaysR (fk F 4) m → Q m) : Ret (P.account_book_paid (Book.mk F)) Q := by
  unfold P.account_book_paid
  have := hF.len
  have hf : FO (fk F 4) := hF.filter _
  have hlen := hf.len
  obtain ⟨L, hL⟩ : ∃ L, fk F 4 = L := ⟨_, rfl⟩
  refine Ret.bind (r_of (F := F) (by omega) ?_)
  rw [hL] at hf hlen h ⊢
  refine Ret.bind (Ret.loop (fun t : Int × FMap Payer Int => ∃ n : Nat, t.1 = n ∧ n ≤ L.length ∧ (∃ l, Lists t.2 l) ∧ ∀ p z, t.2 p = some z ↔ (∃ r ∈ L.take n, r.about = p.day ∧ r.source = p.source) ∧ z = sumL (L.take n) p.day p.source) (fun t => L.length - t.1.toNat) ⟨0, rfl, Nat.zero_le _, ⟨[], Lists.nil⟩, fun p z => by simp [fnone]⟩ ?_)
  rintro ⟨_, m⟩ ⟨n, rfl, hn, ⟨l, hl⟩, hm⟩
  dsimp only at hl hm ⊢
  refine Ret.cond (fun h1 => ?_) fun h1 => ?_
  · have hlt : n < L.length := by have := of_decide_eq_true h1; omega
    have hin : ∀ r ∈ L.take n, 0 ≤ r.cents ∧ r.cents ≤ 1000000000000 := fun r hr => hf.c r (List.mem_of_mem_take hr)
    have hb := sumL_bd hin L[n].about L[n].source
    have hbl : (L.take n).length = n := by rw [List.length_take]; omega
    have hc := hf.c L[n] (List.getElem_mem hlt)
    have hg : (m (Payer.mk L[n].about L[n].source)).getD 0 = sumL (L.take n) L[n].about L[n].source := by
      cases hq : m (Payer.mk L[n].about L[n].source) with
      | some z => exact ((hm _ _).1 hq).2
      | none =>
        have hno : ¬ ∃ r ∈ L.take n, r.about = L[n].about ∧ r.source = L[n].source := fun hx => by
          have := (hm (Payer.mk L[n].about L[n].source) _).2 ⟨hx, rfl⟩
          rw [hq] at this; cases this
        show (0 : Int) = _
        unfold sumL
        rw [List.filter_eq_nil_iff.2 fun r hr h9 => hno ⟨r, hr, by simpa using h9⟩]; rfl
    refine Ret.bind (Ret.ixo (List.getElem?_eq_getElem hlt) (Ret.bind (Ret.bind (Ret.ok ?_))))
    rw [hg]
    refine Ret.bind (Ret.chk (by omega) (Ret.ok (Ret.bind (Ret.chk (by omega) (Ret.next ⟨⟨n + 1, by dsimp only; omega, by omega, Lists.putX hl _ _, fun p z => ?_⟩, by dsimp only; omega⟩)))))
    dsimp only
    have hs := sumL_snoc (L.take n) L[n] p.day p.source
    have ht : L.take (n + 1) = L.take n ++ [L[n]] := by rw [List.take_add_one, List.getElem?_eq_getElem hlt]; rfl
    rw [ht, hs]
    by_cases c : p = Payer.mk L[n].about L[n].source
    · subst c
      simp only [fput, if_true, and_self]
      constructor
      · intro h9
        cases h9
        exact ⟨⟨L[n], List.mem_append_right _ (List.mem_singleton_self _), rfl, rfl⟩, rfl⟩
      · rintro ⟨_, rfl⟩; rfl
    · have c2 : ¬ (L[n].about = p.day ∧ L[n].source = p.source) := fun ⟨h1, h2⟩ => c (by cases p; simp only at h1 h2; rw [h1, h2])
      simp only [fput, if_neg c, if_neg c2, Int.add_zero]
      rw [hm]
      refine and_congr_left fun _ => ?_
      constructor
      · rintro ⟨r, hr, e⟩; exact ⟨r, List.mem_append_left _ hr, e⟩
      · rintro ⟨r, hr, e⟩
        rcases List.mem_append.1 hr with hr | hr
        · exact ⟨r, hr, e⟩
        · have : r = L[n] := by simpa using hr
          rw [this] at e; exact absurd e c2
  · have hge : n = L.length := by have := of_decide_eq_false h1; omega
    subst hge
    rw [List.take_length] at hm
    refine Ret.done (Ret.bind (r_anyM hl (DaysR L) (fun l hl => ?_) (fun s s' hs hs' => ?_) fun m hm => Ret.ok (h m hm)))
    · have hent : ∀ e ∈ l, (∃ r ∈ L, r.about = e.1.day ∧ r.source = e.1.source) ∧ e.2 = sumL L e.1.day e.1.source := fun e he => (hm e.1 e.2).1 ((hl.2 e.1 e.2).1 he)
      obtain ⟨x, h2, h3⟩ := foldM_inv (f := fun (x96 : FMap Int Span) (y97 : Payer × Int) => Option.bind (some ((x96 y97.1.day).getD (Span.mk 0 0))) fun y114 => Option.bind (Option.bind (cond (!((x96 y97.1.day).isSome)) (some (y97.2, y97.2)) (some (y114.lo, y114.hi))) fun (x132, x133) => some (x132, x133)) fun (x134, x135) => some (fput x96 y97.1.day (Span.mk (min x134 y97.2) (max x135 y97.2)))) (fun pre (x : FMap Int Span) => ∀ d, (x d = none → ∀ e ∈ pre, e.1.day ≠ d) ∧ ∀ sp, x d = some sp → PdE pre d sp) l [] fnone (fun d => ⟨fun _ e he => by simp at he, fun sp h => by simp [fnone] at h⟩) (fun pre y x hy hx => by
        have key : ∀ lo hi : Int, PdE (pre ++ [y]) y.1.day (Span.mk lo hi) → ∀ d, (fput x y.1.day (Span.mk lo hi) d = none → ∀ e ∈ pre ++ [y], e.1.day ≠ d) ∧ ∀ sp, fput x y.1.day (Span.mk lo hi) d = some sp → PdE (pre ++ [y]) d sp := fun lo hi hp d => by
          by_cases c : d = y.1.day
          · subst c
            simp only [fput, if_true]
            exact ⟨fun h => (by cases h), fun sp h => (by cases h; exact hp)⟩
          · simp only [fput, if_neg c]
            refine ⟨fun h e he h9 => ?_, fun sp h => ?_⟩
            · rcases List.mem_append.1 he with he | he
              · exact (hx d).1 h e he h9
              · have : e = y := by simpa using he
                subst this; exact c h9.symm
            · obtain ⟨⟨e1, g1, g2⟩, ⟨e2, g4, g5⟩, g7⟩ := (hx d).2 sp h
              refine ⟨⟨e1, List.mem_append_left _ g1, g2⟩, ⟨e2, List.mem_append_left _ g4, g5⟩, fun e he h9 => ?_⟩
              rcases List.mem_append.1 he with he | he
              · exact g7 e he h9
              · have : e = y := by simpa using he
                subst this; exact absurd h9.symm c
        cases hq : x y.1.day with
        | none =>
          have hno := (hx _).1 hq
          refine ⟨_, by rw [bindS]; rfl, key _ _ ?_⟩
          refine ⟨⟨y, by simp, rfl, by simp⟩, ⟨y, by simp, rfl, by simp⟩, fun e he h9 => ?_⟩
          rcases List.mem_append.1 he with he | he
          · exact absurd h9 (hno e he)
          · have : e = y := by simpa using he
            subst this; simp
        | some s =>
          obtain ⟨⟨e1, g1, g2, g3⟩, ⟨e2, g4, g5, g6⟩, g7⟩ := (hx _).2 s hq
          refine ⟨_, rfl, key _ _ ⟨?_, ?_, fun e he h9 => ?_⟩⟩
          · by_cases c : s.lo ≤ y.2
            · exact ⟨e1, List.mem_append_left _ g1, g2, by dsimp only [Option.getD]; rw [g3]; omega⟩
            · exact ⟨y, by simp, rfl, by dsimp only [Option.getD]; omega⟩
          · by_cases c : y.2 ≤ s.hi
            · exact ⟨e2, List.mem_append_left _ g4, g5, by dsimp only [Option.getD]; rw [g6]; omega⟩
            · exact ⟨y, by simp, rfl, by dsimp only [Option.getD]; omega⟩
          · dsimp only [Option.getD]
            rcases List.mem_append.1 he with he | he
            · have := g7 e he h9; omega
            · have : e = y := by simpa using he
              subst this; omega)
      refine ⟨x, h2, ?_⟩
      have toPd : ∀ {d : Int} {sp : Span}, PdE l d sp → Pd L d sp := fun {d sp} ⟨⟨e1, g1, g2, g3⟩, ⟨e2, g4, g5, g6⟩, g7⟩ => by
        obtain ⟨⟨r1, q1, q2, q3⟩, q4⟩ := hent e1 g1
        obtain ⟨⟨r2, p1, p2, p3⟩, p4⟩ := hent e2 g4
        refine ⟨⟨r1, List.mem_filter.2 ⟨q1, decide_eq_true (q2.trans g2)⟩, by rw [← g3, q4, g2, q3]⟩, ⟨r2, List.mem_filter.2 ⟨p1, decide_eq_true (p2.trans g5)⟩, by rw [← g6, p4, g5, p3]⟩, fun r hr => ?_⟩
        obtain ⟨h4, h5⟩ := List.mem_filter.1 hr
        have h5 := of_decide_eq_true h5
        exact g7 (Payer.mk d r.source, sumL L d r.source) ((hl.2 _ _).2 ((hm _ _).2 ⟨⟨r, h4, h5, rfl⟩, rfl⟩)) rfl
      rw [List.nil_append] at h3
      intro d sp
      constructor
      · intro h4
        have h5 := (h3 d).2 sp h4
        obtain ⟨e, he, h6⟩ := h5.ex
        obtain ⟨⟨r, q1, q2, _⟩, _⟩ := hent e he
        exact ⟨⟨r, q1, q2.trans h6⟩, (pd_is (toPd h5)).symm⟩
      · rintro ⟨⟨r, hr, rfl⟩, rfl⟩
        cases h4 : x r.about with
        | none => exact absurd rfl ((h3 _).1 h4 (Payer.mk r.about r.source, sumL L r.about r.source) ((hl.2 _ _).2 ((hm _ _).2 ⟨⟨r, hr, rfl, rfl⟩, rfl⟩)))
        | some sp => rw [pd_is (toPd ((h3 _).2 sp h4))]
    · refine funext fun d => ?_
      cases h1 : s d with
      | none =>
        cases h2 : s' d with
        | none => rfl
        | some sp => rw [(hs d sp).2 ((hs' d sp).1 h2)] at h1; cases h1
      | some sp => rw [(hs' d sp).2 ((hs d sp).1 h1)]
end S
end Go.Proofs.YtepjkmoipjeghaaDoor
namespace Go.Proofs.YtepjkmoipjeghaaDoor
open Go Go.Sx
namespace S
theorem perm_sum {l l' : List Int} (h : l.Perm l') : l.sum = l'.sum := by
  induction h with
  | nil => rfl
  | cons x _ ih => simp only [List.sum_cons, ih]
  | swap x y l => simp only [List.sum_cons]; omega
  | trans _ _ h1 h2 => exact h1.trans h2
theorem most_le (k : Int) : most k ≤ 1000000000000 := by
  unfold most
  repeat' split
  all_goals omega
section
variable {K : List Report} (hK : Ok K)
include hK
theorem fix_vals {o : Report} (ho : o ∈ K) : (fix K o).kind = o.kind ∧ (fix K o).account = o.account ∧ (fix K o).source = o.source ∧ (fix K o).id = o.id ∧ (0 ≤ (fix K o).cents ∧ (fix K o).cents ≤ most o.kind) ∧ (0 ≤ (fix K o).about ∧ (fix K o).about ≤ 100000) := by
  have hv := hK.v o ho
  unfold V at hv
  unfold fix
  cases hb : best K o with
  | none => exact ⟨rfl, rfl, rfl, rfl, hv.2.2.2.2.2.2.2.1, hv.2.2.2.2.2.2.1⟩
  | some c =>
    unfold best at hb
    split at hb
    · rename_i h
      have hs := h.choose_spec
      rw [Option.some.inj hb] at hs
      have hc := hK.v c hs.1
      unfold V at hc
      exact ⟨rfl, rfl, rfl, rfl, hs.2.1.2.2.1, hc.2.2.2.2.2.2.1⟩
    · cases hb
theorem T_el {r : Report} (h : r ∈ T K) : ∃ o ∈ K, o.kind ≤ 7 ∧ WdR K o.id none ∧ r = fix K o := by
  classical
  unfold T at h
  obtain ⟨o, ho, rfl⟩ := List.mem_map.1 h
  rw [List.mem_filter] at ho
  have h9 := of_decide_eq_true ho.2
  exact ⟨o, ho.1, h9.1, h9.2, rfl⟩
theorem T_FO {out : List Report} (hp : out.Perm (T K)) (hs : out.Pairwise le) : FO out := by
  have hv : ∀ r ∈ out, (1 ≤ r.kind ∧ r.kind ≤ 7) ∧ (0 ≤ r.cents ∧ r.cents ≤ 1000000000000) ∧ (0 ≤ r.about ∧ r.about ≤ 100000) := fun r hr => by
    obtain ⟨o, ho, h7, _, rfl⟩ := T_el hK (hp.mem_iff.1 hr)
    obtain ⟨h1, h2, h3, h4, h5, h6⟩ := fix_vals hK ho
    have := most_le o.kind
    have hv := (hK.v o ho).1
    exact ⟨by omega, by omega, h6⟩
  exact ⟨hs, (hp.map _).nodup_iff.2 (T_nd hK), by rw [hp.length_eq]; exact T_len hK, fun r hr => (hv r hr).1, fun r hr => (hv r hr).2.1, fun r hr => (hv r hr).2.2⟩
end
theorem r_sumDays {L : List Report} (hL : FO L) {m : FMap Int Span} (hm : DaysR L m) {Q : Int × Int → Prop} (h : Q (((dl L).map fun d => (pd L d).lo).sum, ((dl L).map fun d => (pd L d).hi).sum)) : Ret (anyM (S := Int × Int) (fun (x357, x358) (y359 : Int × Span) => Option.bind (chk .i64 (x357 + y359.2.lo)) fun n378 => Option.bind (chk .i64 (x358 + y359.2.hi)) fun n382 => some (n378, n382)) m (0, 0)) Q := by
  have hl0 := hm.lists
  have hlen := hL.len
  refine r_anyM hl0 (fun s => s = (((dl L).map fun d => (pd L d).lo).sum, ((dl L).map fun d => (pd L d).hi).sum)) (fun l hl => ?_) (fun s s' h1 h2 => h1.trans h2.symm) (fun s hs => by rw [hs]; exact h)
  have hp : l.Perm ((dl L).map fun d => (d, pd L d)) := by
    refine (List.perm_ext_iff_of_nodup (nd_of hl.1) (nd_of hl0.1)).2 fun e => ?_
    obtain ⟨a, y⟩ := e
    rw [hl.2, hl0.2]
  have hb : ∀ e ∈ l, (0 ≤ e.2.lo ∧ e.2.lo ≤ 60000000000000) ∧ (0 ≤ e.2.hi ∧ e.2.hi ≤ 60000000000000) := fun e he => by
    obtain ⟨d, sp⟩ := e
    obtain ⟨⟨r, hr, rfl⟩, h2⟩ := (hm d sp).1 ((hl.2 _ _).1 he)
    dsimp only
    by_cases c : ∃ sp, Pd L r.about sp
    · obtain ⟨sp, hsp⟩ := c
      rw [pd_is hsp] at h2
      rw [h2]
      obtain ⟨⟨r1, _, e1⟩, ⟨r2, _, e2⟩, _⟩ := hsp
      have b1 := sumL_bd hL.c r.about r1.source
      have b2 := sumL_bd hL.c r.about r2.source
      omega
    · have : pd L r.about = ⟨0, 0⟩ := by unfold pd; rw [dif_neg c]
      rw [h2, this]; exact ⟨by decide, by decide⟩
  have hll : l.length ≤ 60 := by
    rw [hp.length_eq, List.length_map]
    exact Nat.le_trans (dl_len L) hlen
  obtain ⟨s, h1, h2⟩ := foldM_inv2 (f := fun (x : Int × Int) (y359 : Int × Span) => match x with | (x357, x358) => Option.bind (chk .i64 (x357 + y359.2.lo)) fun n378 => Option.bind (chk .i64 (x358 + y359.2.hi)) fun n382 => some (n378, n382)) (fun pre (x : Int × Int) => x = ((pre.map (·.2.lo)).sum, (pre.map (·.2.hi)).sum) ∧ (0 ≤ x.1 ∧ x.1 ≤ pre.length * 60000000000000) ∧ (0 ≤ x.2 ∧ x.2 ≤ pre.length * 60000000000000)) l [] (0, 0) ⟨rfl, by simp, by simp⟩ (fun p y q x e hx => by
    obtain ⟨hx1, hx2, hx3⟩ := hx
    have hy := hb y (by rw [e]; simp)
    have hpl : p.length ≤ 60 := by rw [e] at hll; simp at hll; omega
    rw [List.nil_append] at hx1 hx2 hx3
    refine ⟨(x.1 + y.2.lo, x.2 + y.2.hi), ?_, ?_, ?_, ?_⟩
    · show Option.bind (chk .i64 (x.1 + y.2.lo)) _ = _
      rw [chk_i64 (by omega), bindS, chk_i64 (by omega), bindS]
    · rw [hx1]; simp
    · simp; omega
    · simp; omega)
  refine ⟨s, h1, ?_⟩
  rw [h2.1, List.nil_append, perm_sum (hp.map (·.2.lo)), perm_sum (hp.map (·.2.hi)), List.map_map, List.map_map]
  rfl
noncomputable def payF (F : List Report) : Span := ⟨((dl (fk F 4)).map fun d => (pd (fk F 4) d).lo).sum, ((dl (fk F 4)).map fun d => (pd (fk F 4) d).hi).sum⟩
noncomputable def stF (F : List Report) : State :=
  ⟨told true (fk F 1), lastT (fk F 2), lastT (fk F 3), lastT (fk F 5), told true (fk F 6), told true (fk F 7), payF F,
    if (told true (fk F 7)).known ≠ 0 then 4 else if (told true (fk F 6)).known ≠ 0 then 3 else if (lastT (fk F 5)).known = 1 ∨ 0 < (lastT (fk F 5)).cents then 2 else if 0 < F.length then 1 else 0⟩
def t0 : Told := ⟨0, 0, 0, []⟩
def st0 : State := ⟨t0, t0, t0, t0, t0, t0, ⟨0, 0⟩, 0⟩
def ofA (a day : Int) (r : Report) : Bool := decide (r.account = a) && decide (r.about ≤ day)
section
variable {l : List Report} (hin : ∀ r ∈ l, InR r) {known : Int}
include hin
theorem r_kept {a day : Int} (c : chkE l = 0) {K : List Report} (hk : Kn l known K) {Q : Book → Prop} (h : ∀ out : List Report, out.Perm (T K) → out.Pairwise le → Q (Book.mk (out.filter (ofA a day)))) : Ret (P.account_kept l a day known) Q := by
  obtain ⟨h1, h2, h3⟩ := chk0 c
  have hK := ok_of c hk
  unfold P.account_kept
  refine Ret.bind (r_open h2 h1 h3 hk fun d hd => Ret.bind (Ret.ok (Ret.bind (r_facts hK hd fun out hp hs => ?_))))
  have hlen := hp.length_eq
  have := T_len hK
  rw [if_pos]
  · exact Ret.ok (h out hp hs)
  refine ⟨by omega, fun r hr => ?_⟩
  obtain ⟨o, ho, h7, _, rfl⟩ := T_el hK (hp.mem_iff.1 hr)
  obtain ⟨g1, g2, g3, g4, g5, g6⟩ := fix_vals hK ho
  have hi := hin o ((hk.mem o).1 ho).1
  have hm := most_le o.kind
  unfold InR at hi ⊢
  have e1 : (fix K o).made = o.made := by unfold fix; split <;> rfl
  have e2 : (fix K o).of_ = o.of_ := by unfold fix; split <;> rfl
  rw [g1, g2, g3, g4, e1, e2]
  refine ⟨hi.1, hi.2.1, hi.2.2.1, hi.2.2.2.1, ?_, hi.2.2.2.2.2.1, ?_, hi.2.2.2.2.2.2.2⟩
  · rw [InK.i64]; omega
  · rw [InK.i64]; omega
/-- What both say of a state. -/
def StS (l : List Report) (a day known : Int) (z : State × Int) : Prop :=
  (chkE l ≠ 0 ∧ z = (st0, chkE l)) ∨ (chkE l = 0 ∧ (inB 0 999999 a && (inB 0 100000 day && inB 0 100000 known)) = false ∧ z = (st0, 2)) ∨
  (chkE l = 0 ∧ (inB 0 999999 a && (inB 0 100000 day && inB 0 100000 known)) = true ∧ ∃ K out : List Report, P.ref03_Known l known = some K ∧ Kn l known K ∧ out.Perm (T K) ∧ out.Pairwise le ∧ z = (stF (out.filter (ofA a day)), 0))
omit hin in
theorem StS.uniq {a day : Int} {z z' : State × Int} (h : StS l a day known z) (h' : StS l a day known z') : z = z' := by
  rcases h with ⟨h1, rfl⟩ | ⟨h1, h2, rfl⟩ | ⟨h1, h2, K, out, h3, h4, h5, h6, rfl⟩ <;> rcases h' with ⟨g1, rfl⟩ | ⟨g1, g2, rfl⟩ | ⟨g1, g2, K', out', g3, g4, g5, g6, rfl⟩
  · rfl
  · exact absurd g1 h1
  · exact absurd g1 h1
  · exact absurd h1 g1
  · rfl
  · rw [h2] at g2; cases g2
  · exact absurd h1 g1
  · rw [h2] at g2; cases g2
  · obtain rfl := Option.some.inj (h3.symm.trans g3)
    have hK := ok_of h1 h4
    rw [two_one (h5.trans g5.symm) h6 g6 ((h5.map _).nodup_iff.2 (T_nd hK))]
theorem r_aState {a day : Int} {Q : State × Int → Prop} (h : ∀ z, StS l a day known z → Q z) : Ret (P.account_State l a day known) Q := by
  unfold P.account_State
  refine Ret.bind (r_acheck hin ?_)
  by_cases c : chkE l = 0
  · refine Ret.condF (by simp [c]) ?_
    have hcx : Option.bind (P.account_in 0 999999 ([a] : List Int)) (fun z19 => cond (!z19) (some true) (Option.bind (P.account_in 0 100000 ([day, known] : List Int)) fun z29 => some (!z29))) = some (!(inB 0 999999 a && (inB 0 100000 day && inB 0 100000 known))) := by
      rw [p_in (by simp), bindS, p_in (by simp), bindS]
      simp only [List.all_cons, List.all_nil, Bool.and_true]
      cases inB 0 999999 a <;> rfl
    rw [hcx, bindS]
    cases ci : (inB 0 999999 a && (inB 0 100000 day && inB 0 100000 known)) with
    | false => exact Ret.condT rfl (Ret.ok (h _ (.inr (.inl ⟨c, ci, rfl⟩))))
    | true =>
      refine Ret.condF rfl ?_
      obtain ⟨K, hk, hk2⟩ := known_is (known := known) c
      refine Ret.bind (r_kept hin c hk2 fun out hp hs => ?_)
      have hF0 := T_FO (ok_of c hk2) hp hs
      obtain ⟨F, hFe⟩ : ∃ F, out.filter (ofA a day) = F := ⟨_, rfl⟩
      have hF : FO F := hFe ▸ hF0.filter _
      rw [hFe]
      refine Ret.bind (r_once hF (Ret.bind (r_last hF (Ret.bind (r_last hF (Ret.bind (r_last hF (Ret.bind (r_once hF (Ret.bind (r_once hF (Ret.bind (r_paid hF fun m hm => Ret.bind (r_sumDays (hF.filter _) hm ?_))))))))))))))
      have key : stF F = ⟨told true (fk F 1), lastT (fk F 2), lastT (fk F 3), lastT (fk F 5), told true (fk F 6), told true (fk F 7), payF F, _⟩ := rfl
      have fin : ∀ x, x = (stF F).is_ → Ret (some ((State.mk (told true (fk F 1)) (lastT (fk F 2)) (lastT (fk F 3)) (lastT (fk F 5)) (told true (fk F 6)) (told true (fk F 7)) (payF F) x), (0 : Int))) Q := fun x hx => by
        refine Ret.ok (h _ (.inr (.inr ⟨c, ci, K, out, hk, hk2, hp, hs, ?_⟩)))
        rw [hFe, hx]; rfl
      unfold stF at fin
      dsimp only at fin
      dsimp only
      refine Ret.bind (Ret.bind ?_)
      by_cases c1 : (told true (fk F 7)).known = 0
      · rw [decide_eq_true c1]
        refine Ret.condF rfl (Ret.bind ?_)
        rw [if_neg (by simp [c1])] at fin
        by_cases c2 : (told true (fk F 6)).known = 0
        · rw [decide_eq_true c2]
          rw [if_neg (by simp [c2])] at fin
          have hc3 : (cond (decide ((lastT (fk F 5)).known = 1)) (some true) (some (decide (0 < (lastT (fk F 5)).cents)))) = some (decide ((lastT (fk F 5)).known = 1 ∨ 0 < (lastT (fk F 5)).cents)) := by
            by_cases c4 : (lastT (fk F 5)).known = 1 <;> simp [c4]
          refine Ret.condF rfl (Ret.bind (Ret.val hc3 (Ret.bind ?_)))
          by_cases c3 : (lastT (fk F 5)).known = 1 ∨ 0 < (lastT (fk F 5)).cents
          · rw [if_pos c3] at fin
            exact Ret.condT (decide_eq_true c3) (Ret.ok (Ret.ok (Ret.ok (Ret.ok (fin _ rfl)))))
          · rw [if_neg c3] at fin
            refine Ret.condF (decide_eq_false c3) (Ret.bind ?_)
            by_cases c5 : 0 < F.length
            · rw [if_pos c5] at fin
              exact Ret.condT (decide_eq_true (by omega)) (Ret.ok (Ret.ok (Ret.ok (Ret.ok (Ret.ok (fin _ rfl))))))
            · rw [if_neg c5] at fin
              exact Ret.condF (decide_eq_false (by omega)) (Ret.ok (Ret.ok (Ret.ok (Ret.ok (Ret.ok (fin _ rfl))))))
        · rw [decide_eq_false c2]
          rw [if_pos c2] at fin
          exact Ret.condT rfl (Ret.ok (Ret.ok (Ret.ok (fin _ rfl))))
      · rw [decide_eq_false c1]
        rw [if_pos c1] at fin
        exact Ret.condT rfl (Ret.ok (Ret.ok (fin _ rfl)))
  · exact Ret.condT (by simp [c]) (Ret.ok (h _ (.inl ⟨c, rfl⟩)))
end
end S
end Go.Proofs.YtepjkmoipjeghaaDoor
namespace Go.Proofs.YtepjkmoipjeghaaDoor
open Go Go.Sx
namespace S
noncomputable def clash (F : List Report) (k : Int) (only : Bool) : List Report → List Clash
  | [] => []
  | f :: r => if (if k = 4 then (pd (fk F 4) f.about).lo ≠ (pd (fk F 4) f.about).hi else (told only (f :: r)).known = 1) then [⟨k, f.about, sid (f :: r)⟩] else []
def onlyK (k : Int) : Bool := decide (k = 1 ∨ k = 6 ∨ k = 7)
noncomputable def clK (F : List Report) (k : Int) : List Clash := if onlyK k then clash F k true (fk F k) else (dl (fk F k)).flatMap fun d => clash F k false (grp (fk F k) d)
def ks (n : Nat) : List Int := (List.range n).map fun i : Nat => (i : Int) + 1
noncomputable def clF (F : List Report) : List Clash := (ks 7).flatMap (clK F)
theorem ks_succ (n : Nat) : ks (n + 1) = ks n ++ [(n : Int) + 1] := by unfold ks; rw [List.range_succ, List.map_append]; rfl
theorem ite_len {α : Type} {p : Prop} [Decidable p] {x : α} : (if p then [x] else []).length ≤ 1 := by split <;> simp
theorem clash_len (F : List Report) (k : Int) (o : Bool) (g : List Report) : (clash F k o g).length ≤ 1 := by
  cases g with
  | nil => simp [clash]
  | cons f r => exact ite_len
theorem flat_len {α β : Type} {f : α → List β} {c : Nat} (h : ∀ x, (f x).length ≤ c) : ∀ l : List α, (l.flatMap f).length ≤ l.length * c
  | [] => by simp
  | x :: l => by
    have := flat_len h l
    have := h x
    rw [List.flatMap_cons, List.length_append, List.length_cons, Nat.add_mul, Nat.one_mul]; omega
theorem clK_len {F : List Report} (hF : FO F) (k : Int) : (clK F k).length ≤ 60 := by
  have h1 : FO (fk F k) := hF.filter _
  have h2 := h1.len
  unfold clK
  split
  · have := clash_len F k true (fk F k); omega
  · have := flat_len (fun d => clash_len F k false (grp (fk F k) d)) (dl (fk F k))
    have := dl_len (fk F k)
    omega
theorem dl_same {d : Int} : ∀ (g : List Report) (acc : List Int), (∀ r ∈ g, r.about = d) → d ∈ acc → g.foldl (fun acc r => if r.about ∈ acc then acc else acc ++ [r.about]) acc = acc
  | [], _, _, _ => rfl
  | r :: g, acc, h, hd => by
    have e := h r (List.mem_cons_self ..)
    rw [List.foldl_cons, if_pos (by rw [e]; exact hd)]
    exact dl_same g acc (fun x hx => h x (List.mem_cons_of_mem _ hx)) hd
theorem dl_grp {pre g : List Report} {d : Int} (h0 : g ≠ []) (h : ∀ r ∈ g, r.about = d) (hd : ∀ r ∈ pre, r.about ≠ d) : dl (pre ++ g) = dl pre ++ [d] := by
  cases g with
  | nil => exact absurd rfl h0
  | cons f r =>
    have e := h f (List.mem_cons_self ..)
    have hn : ¬ d ∈ dl pre := fun hm => by
      obtain ⟨r, hr, hrd⟩ := dl_mem.1 hm
      exact hd r hr hrd
    show (pre ++ f :: r).foldl _ [] = _
    rw [List.foldl_append, List.foldl_cons]
    show r.foldl _ (if f.about ∈ dl pre then dl pre else dl pre ++ [f.about]) = _
    rw [e, if_neg hn]
    exact dl_same r _ (fun x hx => h x (List.mem_cons_of_mem _ hx)) (by simp)
theorem le_head {f : Report} {r : List Report} (hs : (f :: r).Pairwise le) : ∀ x ∈ f :: r, f.about ≤ x.about := fun x hx => by
  rcases List.mem_cons.1 hx with rfl | hx
  · exact Int.le_refl _
  · have := (List.pairwise_cons.1 hs).1 x hx
    unfold le at this; omega
/-- The group at a suffix's head. -/
theorem grp_take {X : List Report} {f : Report} {r : List Report} (hX : X = f :: r) (hs : X.Pairwise le) {n : Nat} (hn : n < X.length) (h1 : f.about < X[n].about) (h2 : ∀ x ∈ X.take n, ¬ f.about < x.about) : X.take n = grp X f.about ∧ ∀ x ∈ X.drop n, f.about < x.about := by
  have hge := le_head (hX ▸ hs)
  have hd : ∀ x ∈ X.drop n, f.about < x.about := fun x hx => by
    rw [List.drop_eq_getElem_cons hn] at hx
    rcases List.mem_cons.1 hx with rfl | hx
    · exact h1
    · have hs2 : (X.drop n).Pairwise le := hs.sublist (List.drop_sublist _ _)
      rw [List.drop_eq_getElem_cons hn] at hs2
      have := (List.pairwise_cons.1 hs2).1 x hx
      unfold le at this; omega
  refine ⟨?_, hd⟩
  unfold grp
  conv => rhs; rw [← List.take_append_drop n X, List.filter_append]
  rw [List.filter_eq_self.2 fun x hx => ?_, List.filter_eq_nil_iff.2 fun x hx => ?_, List.append_nil]
  · have := hd x hx
    simp; omega
  · have h3 := h2 x hx
    have h4 := hge x (by rw [← hX]; exact List.mem_of_mem_take hx)
    exact decide_eq_true (by omega)
theorem grp_all {X : List Report} {f : Report} {r : List Report} (hX : X = f :: r) (hs : X.Pairwise le) (h2 : ∀ x ∈ X, ¬ f.about < x.about) : X = grp X f.about := by
  have hge := le_head (hX ▸ hs)
  unfold grp
  rw [List.filter_eq_self.2 fun x hx => ?_]
  have h3 := h2 x hx
  have h4 := hge x (by rw [← hX]; exact hx)
  exact decide_eq_true (by omega)
section
variable {F : List Report} (hF : FO F) {m : FMap Int Span} (hm : DaysR (fk F 4) m)
include hF hm
/-- The clashes of a kind. -/
theorem r_clK {k : Int} (hk : 1 ≤ k ∧ k ≤ 7) {out0 : List Clash} (h0 : out0.length ≤ 420) {R : Type} {C : (List Clash) × (List Report) → Option R} {Q : R → Prop} (h : Ret (C (out0 ++ clK F k, [])) Q) :
    Ret (Option.bind (loopM (S := (List Clash) × (List Report)) (R := ((List Clash) × (List Report))) (fun (x74, x75) => cond (decide (0 < (x75.length : Int))) (Option.bind (Option.bind (P.slices_IndexFunc_58 x75 (fun x0_ => P.account_Clashes_in1 x0_ x75)) fun z77 => Option.bind (cond (decide (0 < z77)) (some (!onlyK k)) (some false)) fun x84 => Option.bind (cond x84 (some z77) (some (x75.length : Int))) fun x86 => some x86) fun x87 => Option.bind (ixo x75 0) fun y88 => Option.bind (cutHi x75 x87) fun l104 => Option.bind (P.account_told l104 (onlyK k)) fun z105 => Option.bind (Option.bind (cond (decide (k = 4)) (Option.bind (some ((m y88.about).getD (Span.mk 0 0))) fun y116 => Option.bind (some ((m y88.about).getD (Span.mk 0 0))) fun y123 => some (!decide (y116.lo = y123.hi))) (some (decide (z105.known = 1)))) fun x130 => some x130) fun x131 => Option.bind (Option.bind (cond x131 (Option.bind (cutHi x75 x87) fun l135 => Option.bind (P.account_ids l135) fun z136 => Option.bind (appo 40 x74 ([(Clash.mk k y88.about z136)] : List Clash)) fun l151 => some l151) (some x74)) fun x156 => some x156) fun x157 => Option.bind (cutLo x75 x87) fun l160 => some (.inl (x157, l160))) (some (.inr (x74, x75)))) (out0, fk F k)) C) Q := by
  have hL : FO (fk F k) := hF.filter _
  have hLl := hL.len
  obtain ⟨L, hLe⟩ : ∃ L, fk F k = L := ⟨_, rfl⟩
  have hm4 : ∀ x ∈ L, k = 4 → (m x.about).getD ⟨0, 0⟩ = pd (fk F 4) x.about := fun x hx hk4 => by
    rw [← hLe, hk4] at hx
    rw [(hm x.about _).2 ⟨⟨x, hx, rfl⟩, rfl⟩]; rfl
  unfold clK at h
  rw [hLe] at hL hLl h ⊢
  refine Ret.bind (Ret.loop (fun t : List Clash × List Report => ∃ pre, L = pre ++ t.2 ∧ (∀ p ∈ pre, ∀ x ∈ t.2, p.about < x.about) ∧ (onlyK k = true → pre = [] ∧ t.1 = out0 ∨ t.2 = [] ∧ t.1 = out0 ++ clash F k true L) ∧ (onlyK k = false → t.1 = out0 ++ (dl pre).flatMap fun d => clash F k false (grp L d))) (fun t => t.2.length) ⟨[], rfl, (fun p hp => by cases hp), (fun _ => .inl ⟨rfl, rfl⟩), fun _ => by simp [dl]⟩ ?_)
  rintro ⟨out, X⟩ ⟨pre, hpre, hlt, ho1, ho2⟩
  dsimp only at hpre hlt ho1 ho2 ⊢
  cases hX : X with
  | nil =>
    subst hX
    refine Ret.condF rfl (Ret.done ?_)
    rw [List.append_nil] at hpre
    subst hpre
    cases c : onlyK k with
    | true =>
      rw [if_pos c] at h
      rcases ho1 c with ⟨h1, h2⟩ | ⟨_, h2⟩
      · subst h1
        rw [h2]
        simp only [clash, List.append_nil] at h
        exact h
      · rw [h2]; exact h
    | false =>
      rw [if_neg (by rw [c]; decide)] at h
      rw [ho2 c]; exact h
  | cons f r =>
    have hXF : FO X := hL.sub (hpre ▸ List.sublist_append_right _ _)
    have hXl := hXF.len
    have hXL : ∀ x ∈ X, x ∈ L := fun x hx => by rw [hpre]; exact List.mem_append_right _ hx
    have hfL := hXL f (by rw [hX]; exact List.mem_cons_self ..)
    have hnd : ∀ p ∈ pre, p.about ≠ f.about := fun p hp e => by
      have := hlt p hp f (by rw [hX]; exact List.mem_cons_self ..)
      omega
    have hgL : grp L f.about = grp X f.about := by
      unfold grp
      rw [hpre, List.filter_append, List.filter_eq_nil_iff.2 fun p hp => by simpa using hnd p hp, List.nil_append]
    -- what is reckoned of a group g, which is X's first n
    have step : ∀ n : Nat, 0 < n → n ≤ X.length → ∀ g, X.take n = g →
        (onlyK k = true → n = X.length) → (onlyK k = false → g = grp X f.about ∧ ∀ x ∈ X.drop n, f.about < x.about) →
        Ret (Option.bind (ixo X 0) fun y88 => Option.bind (cutHi X (n : Int)) fun l104 => Option.bind (P.account_told l104 (onlyK k)) fun z105 => Option.bind (Option.bind (cond (decide (k = 4)) (Option.bind (some ((m y88.about).getD (Span.mk 0 0))) fun y116 => Option.bind (some ((m y88.about).getD (Span.mk 0 0))) fun y123 => some (!decide (y116.lo = y123.hi))) (some (decide (z105.known = 1)))) fun x130 => some x130) fun x131 => Option.bind (Option.bind (cond x131 (Option.bind (cutHi X (n : Int)) fun l135 => Option.bind (P.account_ids l135) fun z136 => Option.bind (appo 40 out ([(Clash.mk k y88.about z136)] : List Clash)) fun l151 => some l151) (some out)) fun x156 => some x156) fun x157 => Option.bind (cutLo X (n : Int)) fun l160 => some (Sum.inl (x157, l160) : (List Clash × List Report) ⊕ (List Clash × List Report))) (Nxt (fun s' : List Clash × List Report => (∃ pre, L = pre ++ s'.2 ∧ (∀ p ∈ pre, ∀ x ∈ s'.2, p.about < x.about) ∧ (onlyK k = true → pre = [] ∧ s'.1 = out0 ∨ s'.2 = [] ∧ s'.1 = out0 ++ clash F k true L) ∧ (onlyK k = false → s'.1 = out0 ++ (dl pre).flatMap fun d => clash F k false (grp L d))) ∧ s'.2.length < X.length) fun a => Ret (C a) Q) := by
      intro n hn0 hn g hg hon hof
      have hgF : FO g := hXF.sub (hg ▸ List.take_sublist _ _)
      have hgl := hgF.len
      obtain ⟨r', hr'⟩ : ∃ r', g = f :: r' := by
        obtain ⟨n', rfl⟩ : ∃ n', n = n' + 1 := ⟨n - 1, by omega⟩
        exact ⟨r.take n', by rw [← hg, hX]; rfl⟩
      have hcut : cutHi X (n : Int) = some g := by unfold cutHi; rw [if_pos ⟨by omega, by omega⟩, ← hg]; rfl
      have hcutL : cutLo X (n : Int) = some (X.drop n) := by unfold cutLo; rw [if_pos ⟨by omega, by omega⟩]; rfl
      refine Ret.bind (Ret.val (show ixo X 0 = some f by rw [hX]; rfl) (Ret.bind (Ret.val hcut (Ret.bind (r_told hgF.nd (by omega) (Ret.bind (Ret.bind ?_)))))))
      have hbool : (cond (decide (k = 4)) (Option.bind (some ((m f.about).getD (Span.mk 0 0))) fun y116 => Option.bind (some ((m f.about).getD (Span.mk 0 0))) fun y123 => some (!decide (y116.lo = y123.hi))) (some (decide ((told (onlyK k) g).known = 1)))) = some (decide (if k = 4 then (pd (fk F 4) f.about).lo ≠ (pd (fk F 4) f.about).hi else (told (onlyK k) g).known = 1)) := by
        by_cases c : k = 4
        · rw [decide_eq_true c]
          simp only [if_pos c]
          rw [hm4 f hfL c]
          simp
        · rw [decide_eq_false c]
          simp only [if_neg c]
          rfl
      have hcl : clash F k (onlyK k) g = if (if k = 4 then (pd (fk F 4) f.about).lo ≠ (pd (fk F 4) f.about).hi else (told (onlyK k) g).known = 1) then [⟨k, f.about, sid g⟩] else [] := by rw [hr']; rfl
      have holen : out.length ≤ 480 := by
        cases c : onlyK k with
        | true =>
          rcases ho1 c with ⟨_, h2⟩ | ⟨_, h2⟩
          · rw [h2]; omega
          · rw [h2, List.length_append]
            have := clash_len F k true L; omega
        | false =>
          rw [ho2 c, List.length_append]
          have h1 := flat_len (fun d => clash_len F k false (grp L d)) (dl pre)
          have h2 := dl_len pre
          have h3 : pre.length ≤ L.length := by rw [hpre]; simp
          omega
      refine Ret.val hbool (Ret.ok (Ret.bind (Ret.bind ?_)))
      have fin : ∀ x, x = out ++ clash F k (onlyK k) g → Ret (Option.bind (cutLo X (n : Int)) fun l160 => some (Sum.inl (x, l160) : (List Clash × List Report) ⊕ (List Clash × List Report))) (Nxt (fun s' : List Clash × List Report => (∃ pre, L = pre ++ s'.2 ∧ (∀ p ∈ pre, ∀ x ∈ s'.2, p.about < x.about) ∧ (onlyK k = true → pre = [] ∧ s'.1 = out0 ∨ s'.2 = [] ∧ s'.1 = out0 ++ clash F k true L) ∧ (onlyK k = false → s'.1 = out0 ++ (dl pre).flatMap fun d => clash F k false (grp L d))) ∧ s'.2.length < X.length) fun a => Ret (C a) Q) := fun x hx => by
        refine Ret.bind (Ret.val hcutL (Ret.next ⟨⟨pre ++ g, ?_, fun p hp y hy => ?_, fun c => .inr ?_, fun c => ?_⟩, ?_⟩))
        · rw [List.append_assoc, ← hg, List.take_append_drop]; exact hpre
        · dsimp only at hy
          rcases List.mem_append.1 hp with hp | hp
          · exact hlt p hp y (List.mem_of_mem_drop hy)
          · cases c : onlyK k with
            | true =>
              rw [hon c, List.drop_length] at hy; cases hy
            | false =>
              rw [(hof c).1] at hp
              have h1 := of_decide_eq_true (List.mem_filter.1 hp).2
              have h2 := (hof c).2 y hy
              omega
        · have e := hon c
          refine ⟨by dsimp only; rw [e, List.drop_length], ?_⟩
          rcases ho1 c with ⟨h1, h2⟩ | ⟨h1, _⟩
          · dsimp only
            have : g = L := by rw [← hg, e, List.take_length, hpre, h1, List.nil_append]
            rw [hx, h2, c, this]
          · rw [h1] at hX; cases hX
        · dsimp only
          have h1 := (hof c).1
          rw [hx, ho2 c, c, dl_grp (d := f.about) (by rw [hr']; exact List.cons_ne_nil _ _) (fun y hy => by rw [h1] at hy; exact of_decide_eq_true (List.mem_filter.1 hy).2) hnd, List.flatMap_append, ← List.append_assoc]
          simp [hgL, ← h1]
        · simp; omega
      refine Ret.cond (fun c => ?_) fun c => ?_
      · refine Ret.bind (Ret.val hcut (Ret.bind (r_ids hgF.nd (by omega) (Ret.bind (Ret.appo (by simp; omega) (by simp; omega) (Ret.ok (Ret.ok (fin _ ?_))))))))
        rw [hcl, if_pos (of_decide_eq_true c)]
      · refine Ret.ok (Ret.ok (fin _ ?_))
        rw [hcl, if_neg (of_decide_eq_false c), List.append_nil]
    have hx0 : 0 < X.length := by rw [hX]; simp
    rw [← hX]
    refine Ret.condT (decide_eq_true (by omega)) (Ret.bind (Ret.bind (r_idx (g := fun x => decide (f.about < x.about)) (fun x _ => by rw [hX]; rfl) (by omega) (fun h1 => ?_) fun n hn h1 h2 => ?_)))
    · refine Ret.bind (Ret.condF rfl (Ret.ok (Ret.bind (Ret.condF rfl (Ret.ok (Ret.ok ?_))))))
      refine step X.length hx0 (Nat.le_refl _) X List.take_length (fun _ => rfl) fun _ => ⟨grp_all hX hXF.s fun x hx h9 => ?_, fun x hx => ?_⟩
      · have := h1 x hx
        rw [decide_eq_true h9] at this; cases this
      · rw [List.drop_length] at hx; cases hx
    · have h3 : ∀ x ∈ X.take n, ¬ f.about < x.about := fun x hx h9 => by
        have := h2 x hx
        rw [decide_eq_true h9] at this; cases this
      have h1' := of_decide_eq_true h1
      have hn0 : 0 < n := by
        rcases Nat.eq_zero_or_pos n with rfl | hp
        · exfalso
          have : X[0] = f := by simp [hX]
          rw [this] at h1'; omega
        · exact hp
      refine Ret.bind (Ret.condT (decide_eq_true (by omega)) (Ret.ok (Ret.bind ?_)))
      cases c : onlyK k with
      | true =>
        refine Ret.condF rfl (Ret.ok (Ret.ok ?_))
        have := step X.length hx0 (Nat.le_refl _) X List.take_length (fun _ => rfl) (fun c' => by rw [c] at c'; cases c')
        rw [c] at this
        exact this
      | false =>
        refine Ret.condT rfl (Ret.ok (Ret.ok ?_))
        have := step n hn0 (by omega) _ rfl (fun c' => by rw [c] at c'; cases c') (fun _ => grp_take hX hXF.s hn h1' h3)
        rw [c] at this
        exact this
end
end S
end Go.Proofs.YtepjkmoipjeghaaDoor
namespace Go.Proofs.YtepjkmoipjeghaaDoor
open Go Go.Sx
namespace S
section
variable {l : List Report} (hin : ∀ r ∈ l, InR r) {known : Int}
include hin
/-- What both say of clashes. -/
def StC (l : List Report) (a known : Int) (z : List Clash × Int) : Prop :=
  (chkE l ≠ 0 ∧ z = ([], chkE l)) ∨ (chkE l = 0 ∧ (inB 0 999999 a && inB 0 100000 known) = false ∧ z = ([], 2)) ∨
  (chkE l = 0 ∧ (inB 0 999999 a && inB 0 100000 known) = true ∧ ∃ K out : List Report, P.ref03_Known l known = some K ∧ Kn l known K ∧ out.Perm (T K) ∧ out.Pairwise le ∧ z = (clF (out.filter (ofA a 100000)), 0))
omit hin in
theorem StC.uniq {a : Int} {z z' : List Clash × Int} (h : StC l a known z) (h' : StC l a known z') : z = z' := by
  rcases h with ⟨h1, rfl⟩ | ⟨h1, h2, rfl⟩ | ⟨h1, h2, K, out, h3, h4, h5, h6, rfl⟩ <;> rcases h' with ⟨g1, rfl⟩ | ⟨g1, g2, rfl⟩ | ⟨g1, g2, K', out', g3, g4, g5, g6, rfl⟩
  · rfl
  · exact absurd g1 h1
  · exact absurd g1 h1
  · exact absurd h1 g1
  · rfl
  · rw [h2] at g2; cases g2
  · exact absurd h1 g1
  · rw [h2] at g2; cases g2
  · obtain rfl := Option.some.inj (h3.symm.trans g3)
    have hK := ok_of h1 h4
    rw [two_one (h5.trans g5.symm) h6 g6 ((h5.map _).nodup_iff.2 (T_nd hK))]
theorem r_aClashes {a : Int} {Q : List Clash × Int → Prop} (h : ∀ z, StC l a known z → Q z) : Ret (P.account_Clashes l a known) Q := by
  unfold P.account_Clashes
  refine Ret.bind (r_acheck hin ?_)
  by_cases c : chkE l = 0
  · refine Ret.condF (by simp [c]) ?_
    have hcx : Option.bind (P.account_in 0 999999 ([a] : List Int)) (fun z12 => cond (!z12) (some true) (Option.bind (P.account_in 0 100000 ([known] : List Int)) fun z22 => some (!z22))) = some (!(inB 0 999999 a && inB 0 100000 known)) := by
      rw [p_in (by simp), bindS, p_in (by simp), bindS]
      simp only [List.all_cons, List.all_nil, Bool.and_true]
      cases inB 0 999999 a <;> rfl
    rw [hcx, bindS]
    cases ci : (inB 0 999999 a && inB 0 100000 known) with
    | false => exact Ret.condT rfl (Ret.ok (h _ (.inr (.inl ⟨c, ci, rfl⟩))))
    | true =>
      refine Ret.condF rfl ?_
      obtain ⟨K, hk, hk2⟩ := known_is (known := known) c
      refine Ret.bind (r_kept hin c hk2 fun out hp hs => ?_)
      have hF0 := T_FO (ok_of c hk2) hp hs
      obtain ⟨F, hFe⟩ : ∃ F, out.filter (ofA a 100000) = F := ⟨_, rfl⟩
      have hF : FO F := hFe ▸ hF0.filter _
      have hFl := hF.len
      rw [hFe]
      refine Ret.bind (r_paid hF fun m hm => Ret.bind (Ret.loop (fun t : List Clash × Int => ∃ n : Nat, t.2 = n ∧ n ≤ 7 ∧ t.1 = (ks n).flatMap (clK F)) (fun t => 7 - t.2.toNat) ⟨0, rfl, Nat.zero_le _, rfl⟩ ?_))
      rintro ⟨x, _⟩ ⟨n, rfl, hn, hx⟩
      dsimp only at hx ⊢
      refine Ret.cond (fun h1 => ?_) fun h1 => ?_
      · have hlt : n < 7 := by have := of_decide_eq_true h1; omega
        have hxl : x.length ≤ 420 := by
          have := flat_len (fun k => clK_len hF k) (ks n)
          have hkl : (ks n).length = n := by simp [ks]
          rw [hx]; rw [hkl] at this; omega
        have hu8 : chk .u8 ((n : Int) + 1) = some ((n : Int) + 1) := chk_in (InK.u8.2 (by omega))
        refine Ret.bind (Ret.chk (by omega) (Ret.bind (Ret.val hu8 (Ret.bind (r_of (F := F) (by omega) ?_)))))
        have hon : (cond (decide ((n : Int) + 1 = 1)) (some true) (cond (decide ((n : Int) + 1 = 6)) (some true) (some (decide ((n : Int) + 1 = 7))))) = some (onlyK ((n : Int) + 1)) := by
          unfold onlyK
          by_cases c1 : (n : Int) + 1 = 1 <;> by_cases c2 : (n : Int) + 1 = 6 <;> simp [c1, c2]
        rw [hon, bindS]
        refine r_clK hF hm (by omega) hxl (Ret.bind (Ret.chk (by omega) (Ret.next ⟨⟨n + 1, by dsimp only; omega, by omega, ?_⟩, by dsimp only; omega⟩)))
        dsimp only
        rw [ks_succ, List.flatMap_append, hx]; simp
      · have hge : n = 7 := by have := of_decide_eq_false h1; omega
        subst hge
        refine Ret.done (Ret.ok (h _ (.inr (.inr ⟨c, ci, K, out, hk, hk2, hp, hs, ?_⟩))))
        rw [hx, hFe]; rfl
  · exact Ret.condT (by simp [c]) (Ret.ok (h _ (.inl ⟨c, rfl⟩)))
end
/-! The reference. -/
theorem r_put {X : List Int} {y : Int} (hs : X.Pairwise (· ≤ ·)) (hXl : X.length ≤ 1000000) {Q : List Int → Prop} (h : ∀ X', X'.Perm (X ++ [y]) → X'.Pairwise (· ≤ ·) → Q X') : Ret (P.ref03_put X y) Q := by
  unfold P.ref03_put
  refine Ret.bind (Ret.appo (by simp; omega) (by simp; omega) ?_)
  rw [show ((X ++ [y]).length : Int) - 1 = (X.length : Int) by simp]
  refine Ret.bind (Ret.chk (by omega) (Ret.bind (Ret.loop (fun t : Int × List Int => ∃ A B, t.1 = (A.length : Int) ∧ t.2 = A ++ y :: B ∧ X = A ++ B ∧ ∀ b ∈ B, y < b) (fun t => t.1.toNat) ⟨X, [], rfl, rfl, by simp, fun b hb => by cases hb⟩ ?_)))
  rintro ⟨_, _⟩ ⟨A, B, rfl, rfl, hX, hB⟩
  dsimp only
  have hAl : A.length ≤ X.length := by rw [hX]; simp
  have stop : (∀ a ∈ A, a ≤ y) → Q (A ++ y :: B) := fun ha => by
    rw [hX] at hs h
    rw [List.pairwise_append] at hs
    refine h _ ?_ (List.pairwise_append.2 ⟨hs.1, List.pairwise_cons.2 ⟨fun b hb => ?_, hs.2.1⟩, fun a h1 b h2 => ?_⟩)
    · rw [List.append_assoc]
      exact (List.Perm.refl A).append (List.perm_append_singleton y B).symm
    · have := hB b hb; omega
    · rcases List.mem_cons.1 h2 with rfl | h2
      · exact ha a h1
      · exact hs.2.2 a h1 b h2
  rcases List.eq_nil_or_concat A with rfl | ⟨A', z, rfl⟩
  · refine Ret.bind (Ret.condF rfl (Ret.ok (Ret.condF rfl (Ret.done (Ret.ok (stop fun a ha => by cases ha))))))
  · rw [List.concat_eq_append] at *
    have e1 : (((A' ++ [z]).length : Nat) : Int) - 1 = (A'.length : Int) := by simp
    have g1 : (A' ++ [z] ++ y :: B)[(A' ++ [z]).length]? = some y := by simp
    have g2 : (A' ++ [z] ++ y :: B)[A'.length]? = some z := by simp
    have hl2 : (A' ++ [z]).length = A'.length + 1 := by simp
    refine Ret.bind (Ret.condT (decide_eq_true (by omega)) (Ret.bind (Ret.ixo g1 (Ret.bind (Ret.chk (by omega) ?_)))))
    rw [e1]
    refine Ret.bind (Ret.ixo g2 (Ret.ok (Ret.cond (fun h2 => ?_) fun h2 => ?_)))
    · have h2 := of_decide_eq_true h2
      refine Ret.bind (Ret.bind (Ret.chk (by omega) ?_))
      refine Ret.bind (Ret.ixo g2 (Ret.bind (Ret.ixo g1 (Ret.bind (Ret.ixo g1 (Ret.bind (Ret.chk (by omega) ?_)))))))
      have s1 : (A' ++ [z] ++ y :: B).set (A' ++ [z]).length z = A' ++ z :: z :: B := by
        rw [hl2]; simp [List.set_append]
      refine Ret.bind (Ret.seto (by simp) ?_)
      rw [s1]
      have g3 : (A' ++ z :: z :: B)[A'.length]? = some z := by simp
      refine Ret.bind (Ret.ixo g3 (Ret.bind (Ret.seto (by simp) (Ret.ok (Ret.bind (Ret.chk (by omega) ?_))))))
      have s2 : (A' ++ z :: z :: B).set A'.length y = A' ++ y :: z :: B := by simp [List.set_append]
      rw [s2]
      refine Ret.next ⟨⟨A', z :: B, rfl, rfl, by rw [hX]; simp, fun b hb => ?_⟩, by simp⟩
      rcases List.mem_cons.1 hb with rfl | hb
      · exact h2
      · exact hB b hb
    · have h2 := of_decide_eq_false h2
      refine Ret.done (Ret.ok (stop fun a ha => ?_))
      rcases List.mem_append.1 ha with ha | ha
      · rw [hX] at hs
        rw [List.pairwise_append, List.pairwise_append] at hs
        have := hs.1.2.2 a ha z (by simp)
        omega
      · have : a = z := by simpa using ha
        omega
/-- An Id more. -/
theorem r_sid {L : List Report} {r : Report} (hl : L.length ≤ 1000000) {Q : List Int → Prop} (h : Q (sid (L ++ [r]))) : Ret (P.ref03_put (sid L) r.id) Q :=
  r_put (sid_sorted L) (by rw [sid_len]; exact hl) fun X' hp hs => by
    rw [sid_is (L := L ++ [r]) (S := X') (hp.trans (by rw [List.map_append]; exact (sid_perm L).append (List.Perm.refl _))) hs]
    exact h
theorem fk_snoc {F : List Report} {n : Nat} (hlt : n < F.length) (k : Int) : fk (F.take (n + 1)) k = fk (F.take n) k ++ if F[n].kind = k then [F[n]] else [] := by
  unfold fk
  rw [List.take_add_one, List.getElem?_eq_getElem hlt, List.filter_append]
  by_cases c : F[n].kind = k <;> simp [c]
theorem r_Of {F : List Report} (hl : F.length ≤ 1000000) {a day : Int} {Q : List Report → Prop} (h : Q (F.filter (ofA a day))) : Ret (P.ref03_Of F a day) Q := by
  unfold P.ref03_Of
  refine Ret.bind (Ret.loop (fun t : List Report × Int => ∃ n : Nat, t.2 = n ∧ n ≤ F.length ∧ t.1 = (F.take n).filter (ofA a day)) (fun t => F.length - t.2.toNat) ⟨0, rfl, Nat.zero_le _, rfl⟩ ?_)
  rintro ⟨X, _⟩ ⟨n, rfl, hn', hX⟩
  dsimp only at hX ⊢
  refine Ret.cond (fun h1 => ?_) fun h1 => ?_
  · have hlt : n < F.length := by have := of_decide_eq_true h1; omega
    have g := List.getElem?_eq_getElem hlt
    have hXl : X.length ≤ n := by
      rw [hX]
      refine Nat.le_trans (List.length_filter_le _ _) ?_
      rw [List.length_take]; omega
    have hst : (F.take (n + 1)).filter (ofA a day) = (F.take n).filter (ofA a day) ++ if ofA a day F[n] then [F[n]] else [] := by
      rw [List.take_add_one, g, List.filter_append]
      cases c : ofA a day F[n] <;> simp [c]
    have hb : Ret (Option.bind (ixo F (n : Int)) fun y4 => cond (decide (y4.account = a)) (Option.bind (ixo F (n : Int)) fun y19 => some (decide (y19.about ≤ day))) (some false)) fun b => b = ofA a day F[n] := by
      refine Ret.bind (Ret.ixo g ?_)
      unfold ofA
      by_cases c : F[n].account = a
      · rw [decide_eq_true c]
        exact Ret.condT rfl (Ret.bind (Ret.ixo g (Ret.ok rfl)))
      · rw [decide_eq_false c]
        exact Ret.condF rfl (Ret.ok rfl)
    refine Ret.bind (Ret.bind (hb.mono fun b hb => ?_))
    subst hb
    refine Ret.bind (Ret.cond (fun h2 => ?_) fun h2 => ?_)
    · refine Ret.bind (Ret.ixo g (Ret.bind (Ret.appo (by simp; omega) (by simp; omega) (Ret.ok (Ret.ok (Ret.bind (Ret.chk (by omega) (Ret.next ⟨⟨n + 1, by dsimp only; omega, by omega, ?_⟩, by dsimp only; omega⟩))))))))
      dsimp only
      rw [hst, if_pos h2, hX]
    · refine Ret.ok (Ret.ok (Ret.bind (Ret.chk (by omega) (Ret.next ⟨⟨n + 1, by dsimp only; omega, by omega, ?_⟩, by dsimp only; omega⟩))))
      dsimp only
      rw [hst, if_neg (by rw [h2]; decide), hX, List.append_nil]
  · have : n = F.length := by have := of_decide_eq_false h1; omega
    subst this
    refine Ret.done (Ret.ok ?_)
    rw [hX, List.take_length]; exact h
theorem r_seen {F : List Report} (hl : F.length ≤ 1000000) {d : Int} {Q : Bool → Prop} (h : Q (decide (d ∈ dl (fk F 4)))) : Ret (P.ref03_seen F d) Q := by
  unfold P.ref03_seen
  refine Ret.bind (Ret.loop (fun t : Int => ∃ n : Nat, t = n ∧ n ≤ F.length ∧ ∀ x ∈ F.take n, ¬ (x.kind = 4 ∧ x.about = d)) (fun t => F.length - t.toNat) ⟨0, rfl, Nat.zero_le _, fun x hx => by simp at hx⟩ ?_)
  rintro _ ⟨n, rfl, hn', hX⟩
  refine Ret.cond (fun h1 => ?_) fun h1 => ?_
  · have hlt : n < F.length := by have := of_decide_eq_true h1; omega
    have g := List.getElem?_eq_getElem hlt
    have hb : Ret (Option.bind (ixo F (n : Int)) fun y3 => cond (decide (y3.kind = 4)) (Option.bind (ixo F (n : Int)) fun y18 => some (decide (y18.about = d))) (some false)) fun b => b = decide (F[n].kind = 4 ∧ F[n].about = d) := by
      refine Ret.bind (Ret.ixo g ?_)
      by_cases c : F[n].kind = 4
      · rw [decide_eq_true c]
        exact Ret.condT rfl (Ret.bind (Ret.ixo g (Ret.ok (by simp [c]))))
      · rw [decide_eq_false c]
        exact Ret.condF rfl (Ret.ok (by simp [c]))
    refine Ret.bind (hb.mono fun b hb => ?_)
    subst hb
    refine Ret.cond (fun h2 => ?_) fun h2 => ?_
    · have h2 := of_decide_eq_true h2
      refine Ret.done (Ret.elimR (Ret.ok ?_))
      have : d ∈ dl (fk F 4) := dl_mem.2 ⟨F[n], List.mem_filter.2 ⟨List.getElem_mem hlt, decide_eq_true h2.1⟩, h2.2⟩
      rw [decide_eq_true this] at h; exact h
    · refine Ret.bind (Ret.chk (by omega) (Ret.next ⟨⟨n + 1, by omega, by omega, fun x hx => ?_⟩, by omega⟩))
      rcases (take_mem hlt).1 hx with hx | hx
      · exact hX x hx
      · rw [hx]; exact of_decide_eq_false h2
  · have : n = F.length := by have := of_decide_eq_false h1; omega
    subst this
    rw [List.take_length] at hX
    refine Ret.done (Ret.elimL (Ret.ok ?_))
    have : ¬ d ∈ dl (fk F 4) := fun hm => by
      obtain ⟨r, hr, e⟩ := dl_mem.1 hm
      obtain ⟨h3, h4⟩ := List.mem_filter.1 hr
      exact hX r h3 ⟨of_decide_eq_true h4, e⟩
    rw [decide_eq_false this] at h; exact h
end S
end Go.Proofs.YtepjkmoipjeghaaDoor
namespace Go.Proofs.YtepjkmoipjeghaaDoor
open Go Go.Sx
namespace S
theorem sid_nil : sid [] = [] := by simp [sid]
theorem le_take {F : List Report} (hs : F.Pairwise le) {n : Nat} (hlt : n < F.length) : ∀ x ∈ F.take n, le x F[n] := fun x hx => by
  rw [← List.take_append_drop n F, List.drop_eq_getElem_cons hlt, List.pairwise_append] at hs
  exact hs.2.2 x hx _ (List.mem_cons_self ..)
theorem fk_take {F : List Report} {n : Nat} {k : Int} {x : Report} (h : x ∈ fk (F.take n) k) : x ∈ F.take n ∧ x.kind = k := by
  obtain ⟨h1, h2⟩ := List.mem_filter.1 h
  exact ⟨h1, of_decide_eq_true h2⟩
theorem told_snoc {only : Bool} {f r : Report} {L : List Report} : told only ((f :: L) ++ [r]) = if (told only (f :: L)).known = 2 ∧ ag only f r = true then ⟨2, f.cents, f.about, sid ((f :: L) ++ [r])⟩ else ⟨1, 0, f.about, sid ((f :: L) ++ [r])⟩ := by
  rw [List.cons_append, told_cons, told_cons, ← List.cons_append, List.all_append]
  by_cases c : (f :: L).all (ag only f) = true
  · rw [if_pos c, c]
    cases c2 : ag only f r <;> simp [c2]
  · rw [if_neg c]
    have : (f :: L).all (ag only f) = false := by simpa using c
    rw [this]; simp
theorem told_one {only : Bool} {r : Report} : told only [r] = ⟨2, r.cents, r.about, sid [r]⟩ := by
  rw [told_cons, if_pos (by simp [ag])]
theorem grp_snoc (L : List Report) (r : Report) (d : Int) : grp (L ++ [r]) d = grp L d ++ if r.about = d then [r] else [] := by
  unfold grp
  rw [List.filter_append]
  by_cases c : r.about = d <;> simp [c]
section
variable {F : List Report} (hF : FO F)
include hF
theorem r_ronce {k : Int} {Q : Told → Prop} (h : Q (told true (fk F k))) : Ret (P.ref03_once F k) Q := by
  have hFl := hF.len
  unfold P.ref03_once
  refine Ret.bind (Ret.loop (fun t : Int × Int × Int × Int × Int × List Int => ∃ n : Nat, t.2.1 = n ∧ n ≤ F.length ∧ Told.mk t.2.2.1 t.2.2.2.1 t.2.2.2.2.1 t.2.2.2.2.2 = told true (fk (F.take n) k) ∧ (t.2.2.1 ≠ 0 → t.1 = t.2.2.2.2.1)) (fun t => F.length - t.2.1.toNat) ⟨0, rfl, Nat.zero_le _, rfl, fun h => absurd rfl h⟩ ?_)
  rintro ⟨x9, _, x11, x12, x13, x14⟩ ⟨n, rfl, hn, ht, ha⟩
  dsimp only at ht ha ⊢
  refine Ret.cond (fun h1 => ?_) fun h1 => ?_
  · have hlt : n < F.length := by have := of_decide_eq_true h1; omega
    have g := List.getElem?_eq_getElem hlt
    have hst := fk_snoc hlt k
    have fin : ∀ y9 y11 y12 y13 y14, Told.mk y11 y12 y13 y14 = told true (fk (F.take (n + 1)) k) → (y11 ≠ 0 → y9 = y13) → Ret (Option.bind (chk .i64 ((n : Int) + 1)) fun n86 => some (Sum.inl (y9, n86, y11, y12, y13, y14) : (Int × Int × Int × Int × Int × List Int) ⊕ (Int × Int × Int × List Int))) (Nxt (fun s' : Int × Int × Int × Int × Int × List Int => (∃ n : Nat, s'.2.1 = n ∧ n ≤ F.length ∧ Told.mk s'.2.2.1 s'.2.2.2.1 s'.2.2.2.2.1 s'.2.2.2.2.2 = told true (fk (F.take n) k) ∧ (s'.2.2.1 ≠ 0 → s'.1 = s'.2.2.2.2.1)) ∧ F.length - s'.2.1.toNat < F.length - (n : Int).toNat) fun a => Ret (some (Told.mk a.1 a.2.1 a.2.2.1 a.2.2.2)) Q) := fun y9 y11 y12 y13 y14 h1 h2 =>
      Ret.bind (Ret.chk (by omega) (Ret.next ⟨⟨n + 1, by dsimp only; omega, by omega, h1, h2⟩, by dsimp only; omega⟩))
    refine Ret.bind (Ret.bind (Ret.ixo g (Ret.cond (fun h2 => ?_) fun h2 => ?_)))
    · have h2 : F[n].kind ≠ k := by simpa using h2
      rw [if_neg h2, List.append_nil] at hst
      exact Ret.ok (fin _ _ _ _ _ (by rw [hst]; exact ht) ha)
    · have h2 : F[n].kind = k := by simpa using h2
      rw [if_pos h2] at hst
      have hle := le_take hF.s hlt
      have hll : (fk (F.take n) k).length ≤ 60 := (hF.sub (List.filter_sublist.trans (List.take_sublist _ _))).len
      cases hL : fk (F.take n) k with
      | nil =>
        rw [hL] at ht hst
        simp only [told, Told.mk.injEq] at ht
        obtain ⟨rfl, rfl, rfl, rfl⟩ := ht
        refine Ret.bind (Ret.bind (Ret.condT rfl (Ret.ok (Ret.ok (Ret.bind (Ret.bind (Ret.condT rfl ?_)))))))
        rw [decide_eq_true (show F[n].cents = F[n].cents from rfl), decide_eq_true (show F[n].about = F[n].about from rfl)]
        refine Ret.condF rfl (Ret.ok (Ret.bind (Ret.condF rfl (Ret.ok (Ret.ok (Ret.bind ?_))))))
        rw [← sid_nil]
        refine r_sid (by simp) (Ret.ok (fin _ _ _ _ _ ?_ fun _ => ?_))
        · rw [hst, List.nil_append, told_one, Int.min_self]
        · rw [Int.min_self]
      | cons f L0 =>
        rw [hL] at ht hst hll
        have hff : f ∈ F.take n := (fk_take (k := k) (by rw [hL]; exact List.mem_cons_self ..)).1
        have hfr := hle f hff
        have hmin : min f.about F[n].about = f.about := by unfold le at hfr; omega
        have hn0 : (told true (f :: L0)).known ≠ 0 := by rw [told_cons]; split <;> simp
        have h13 : x13 = f.about ∧ x14 = sid (f :: L0) := by
          have e1 := congrArg Told.since ht
          have e2 := congrArg Told.by_ ht
          rw [told_cons] at e1 e2
          split at e1 <;> split at e2 <;> exact ⟨e1, e2⟩
        have h11 : x11 = (told true (f :: L0)).known := congrArg Told.known ht
        have h12 : x12 = (told true (f :: L0)).cents := congrArg Told.cents ht
        obtain ⟨rfl, rfl⟩ := h13
        have h9 : x9 = f.about := ha (by rw [h11]; exact hn0)
        refine Ret.bind (Ret.bind (Ret.condF (decide_eq_false (by rw [h11]; exact hn0)) (Ret.ok (Ret.ok (Ret.bind (Ret.bind ?_))))))
        have hc : (cond (decide (x11 = 2)) (cond (!decide (F[n].cents = x12)) (some true) (some (!decide (F[n].about = x9)))) (some false)) = some (decide (x11 = 2) && !ag true f F[n]) := by
          by_cases c : x11 = 2
          · have : x12 = f.cents := by
              rw [h12]
              rw [h11] at c
              rw [told_cons] at c ⊢
              split at c
              · rename_i h; rw [if_pos h]
              · cases c
            rw [c, this, h9]
            unfold ag
            by_cases c1 : F[n].cents = f.cents <;> by_cases c2 : F[n].about = f.about <;> simp [c1, c2]
          · rw [decide_eq_false c]; rfl
        have key : ∀ y11 y12, Told.mk y11 y12 f.about (sid ((f :: L0) ++ [F[n]])) = told true ((f :: L0) ++ [F[n]]) → Ret (Option.bind (P.ref03_put (sid (f :: L0)) F[n].id) fun z71 => some (x9, y11, y12, min f.about F[n].about, z71)) fun a => Ret (Option.bind (chk .i64 ((n : Int) + 1)) fun n86 => some (Sum.inl (a.1, n86, a.2.1, a.2.2.1, a.2.2.2.1, a.2.2.2.2) : (Int × Int × Int × Int × Int × List Int) ⊕ (Int × Int × Int × List Int))) (Nxt (fun s' : Int × Int × Int × Int × Int × List Int => (∃ n : Nat, s'.2.1 = n ∧ n ≤ F.length ∧ Told.mk s'.2.2.1 s'.2.2.2.1 s'.2.2.2.2.1 s'.2.2.2.2.2 = told true (fk (F.take n) k) ∧ (s'.2.2.1 ≠ 0 → s'.1 = s'.2.2.2.2.1)) ∧ F.length - s'.2.1.toNat < F.length - (n : Int).toNat) fun a => Ret (some (Told.mk a.1 a.2.1 a.2.2.1 a.2.2.2)) Q) := fun y11 y12 hy => by
          refine Ret.bind (r_sid (by omega) (Ret.ok (fin _ _ _ _ _ ?_ fun _ => ?_)))
          · rw [hst, hmin]; exact hy
          · rw [hmin]; exact h9
        refine Ret.val hc (Ret.bind (Ret.cond (fun c => ?_) fun c => ?_))
        · refine Ret.ok (Ret.ok (key 1 0 ?_))
          have c2 : ag true f F[n] = false := by
            rw [Bool.and_eq_true] at c; simpa using c.2
          rw [told_snoc, if_neg (by rw [c2]; simp)]
        · refine Ret.ok (Ret.ok (key x11 x12 ?_))
          rw [told_snoc]
          by_cases c3 : x11 = 2
          · rw [decide_eq_true c3, Bool.true_and] at c
            have c2 : ag true f F[n] = true := by simpa using c
            rw [if_pos ⟨by rw [← h11]; exact c3, c2⟩]
            have : x12 = f.cents := by
              rw [h12]
              rw [h11] at c3
              rw [told_cons] at c3 ⊢
              split at c3
              · rename_i h; rw [if_pos h]
              · cases c3
            rw [c3, this]
          · rw [if_neg (by rw [← h11]; exact fun h => c3 h.1)]
            rw [told_cons] at h11 h12
            split at h11
            · exact absurd h11 c3
            · rename_i h; rw [if_neg h] at h12; rw [h11, h12]
  · have : n = F.length := by have := of_decide_eq_false h1; omega
    subst this
    rw [List.take_length] at ht
    refine Ret.done (Ret.ok ?_)
    dsimp only
    rw [ht]; exact h
theorem lastT_snoc {L : List Report} {r : Report} : lastT (L ++ [r]) = told false (grp L r.about ++ [r]) := by
  unfold lastT
  rw [List.getLast?_append]
  simp only [List.getLast?_singleton, Option.some_or]
  rw [grp_snoc, if_pos rfl]
/-- What is told last by some. -/
theorem lastT_at {L : List Report} (hs : L.Pairwise le) (h0 : L ≠ []) : ∃ z f L0, (∀ x ∈ L, x.about ≤ z) ∧ grp L z = f :: L0 ∧ f.about = z ∧ lastT L = told false (f :: L0) := by
  obtain ⟨n, hn⟩ : ∃ n, n + 1 = L.length := ⟨L.length - 1, by have := List.length_pos_iff.2 h0; omega⟩
  have hg : L[n]? = some (L[n]'(by omega)) := List.getElem?_eq_getElem (by omega)
  have hlast : lastT L = told false (grp L (L[n]'(by omega)).about) := by
    unfold lastT
    rw [List.getLast?_eq_getElem?, show L.length - 1 = n by omega, hg]
  have hm : L[n]'(by omega) ∈ grp L (L[n]'(by omega)).about := List.mem_filter.2 ⟨List.getElem_mem _, by simp⟩
  cases hL : grp L (L[n]'(by omega)).about with
  | nil => rw [hL] at hm; cases hm
  | cons f L0 =>
    refine ⟨_, f, L0, fun x hx => le_last hs hn hx, hL, ?_, by rw [hlast, hL]⟩
    have : f ∈ grp L (L[n]'(by omega)).about := by rw [hL]; exact List.mem_cons_self ..
    exact of_decide_eq_true (List.mem_filter.1 this).2
theorem r_rlast {k : Int} {Q : Told → Prop} (h : Q (lastT (fk F k))) : Ret (P.ref03_last F k) Q := by
  have hFl := hF.len
  unfold P.ref03_last
  refine Ret.bind (Ret.loop (fun t : Int × Int × Int × Int × List Int => ∃ n : Nat, t.1 = n ∧ n ≤ F.length ∧ Told.mk t.2.1 t.2.2.1 t.2.2.2.1 t.2.2.2.2 = lastT (fk (F.take n) k)) (fun t => F.length - t.1.toNat) ⟨0, rfl, Nat.zero_le _, rfl⟩ ?_)
  rintro ⟨_, x10, x11, x12, x13⟩ ⟨n, rfl, hn, ht⟩
  dsimp only at ht ⊢
  refine Ret.cond (fun h1 => ?_) fun h1 => ?_
  · have hlt : n < F.length := by have := of_decide_eq_true h1; omega
    have g := List.getElem?_eq_getElem hlt
    have hst := fk_snoc hlt k
    have fin : ∀ y10 y11 y12 y13, Told.mk y10 y11 y12 y13 = lastT (fk (F.take (n + 1)) k) → Ret (Option.bind (chk .i64 ((n : Int) + 1)) fun n80 => some (Sum.inl (n80, y10, y11, y12, y13) : (Int × Int × Int × Int × List Int) ⊕ (Int × Int × Int × List Int))) (Nxt (fun s' : Int × Int × Int × Int × List Int => (∃ n : Nat, s'.1 = n ∧ n ≤ F.length ∧ Told.mk s'.2.1 s'.2.2.1 s'.2.2.2.1 s'.2.2.2.2 = lastT (fk (F.take n) k)) ∧ F.length - s'.1.toNat < F.length - (n : Int).toNat) fun a => Ret (some (Told.mk a.1 a.2.1 a.2.2.1 a.2.2.2)) Q) := fun y10 y11 y12 y13 h1 =>
      Ret.bind (Ret.chk (by omega) (Ret.next ⟨⟨n + 1, by dsimp only; omega, by omega, h1⟩, by dsimp only; omega⟩))
    refine Ret.bind (Ret.bind (Ret.ixo g (Ret.cond (fun h2 => ?_) fun h2 => ?_)))
    · have h2 : F[n].kind ≠ k := by simpa using h2
      rw [if_neg h2, List.append_nil] at hst
      exact Ret.ok (fin _ _ _ _ (by rw [hst]; exact ht))
    · have h2 : F[n].kind = k := by simpa using h2
      rw [if_pos h2] at hst
      have hle := le_take hF.s hlt
      have hsub : FO (fk (F.take n) k) := hF.sub (List.filter_sublist.trans (List.take_sublist _ _))
      have hll := hsub.len
      -- a new day
      have new : grp (fk (F.take n) k) F[n].about = [] → Ret (Option.bind (Option.bind (cond (!decide (F[n].cents = F[n].cents)) (some (decide ((2 : Int) = 2))) (some false)) fun x54 => Option.bind (cond x54 (some ((1 : Int), (0 : Int))) (some ((2 : Int), F[n].cents))) fun (x62, x63) => some (x62, x63)) fun (x64, x65) => Option.bind (P.ref03_put [] F[n].id) fun z66 => some (x64, x65, F[n].about, z66)) fun a => Ret (Option.bind (chk .i64 ((n : Int) + 1)) fun n80 => some (Sum.inl (n80, a.1, a.2.1, a.2.2.1, a.2.2.2) : (Int × Int × Int × Int × List Int) ⊕ (Int × Int × Int × List Int))) (Nxt (fun s' : Int × Int × Int × Int × List Int => (∃ n : Nat, s'.1 = n ∧ n ≤ F.length ∧ Told.mk s'.2.1 s'.2.2.1 s'.2.2.2.1 s'.2.2.2.2 = lastT (fk (F.take n) k)) ∧ F.length - s'.1.toNat < F.length - (n : Int).toNat) fun a => Ret (some (Told.mk a.1 a.2.1 a.2.2.1 a.2.2.2)) Q) := fun hg => by
        refine Ret.bind (Ret.bind ?_)
        rw [decide_eq_true (show F[n].cents = F[n].cents from rfl)]
        refine Ret.condF rfl (Ret.ok (Ret.bind (Ret.condF rfl (Ret.ok (Ret.ok (Ret.bind ?_))))))
        rw [← sid_nil]
        refine r_sid (by simp) (Ret.ok (fin _ _ _ _ ?_))
        rw [hst, lastT_snoc hF, hg, List.nil_append, told_one]
      by_cases hL : fk (F.take n) k = []
      · have ht' := ht
        rw [hL] at ht'
        obtain ⟨rfl, rfl, rfl, rfl⟩ : x10 = 0 ∧ x11 = 0 ∧ x12 = 0 ∧ x13 = [] := by simpa [lastT, told] using ht'
        exact Ret.bind (Ret.bind (Ret.condT rfl (Ret.ok (Ret.bind (Ret.condT rfl (Ret.ok (Ret.ok (new (by rw [hL]; rfl)))))))))
      · obtain ⟨z, f, L0, hz, hgz, hfz, hlt2⟩ := lastT_at hF hsub.s hL
        rw [hlt2] at ht
        have hn0 : (told false (f :: L0)).known ≠ 0 := by rw [told_cons]; split <;> simp
        have h13 : x12 = f.about ∧ x13 = sid (f :: L0) := by
          have e1 := congrArg Told.since ht
          have e2 := congrArg Told.by_ ht
          rw [told_cons] at e1 e2
          split at e1 <;> split at e2 <;> exact ⟨e1, e2⟩
        have h11 : x10 = (told false (f :: L0)).known := congrArg Told.known ht
        have h12 : x11 = (told false (f :: L0)).cents := congrArg Told.cents ht
        obtain ⟨rfl, rfl⟩ := h13
        have hzn : z ≤ F[n].about := by
          have hf : f ∈ fk (F.take n) k := (List.mem_filter.1 (show f ∈ grp (fk (F.take n) k) z by rw [hgz]; exact List.mem_cons_self ..)).1
          have := hle f (fk_take hf).1
          unfold le at this; omega
        refine Ret.bind (Ret.bind (Ret.condF (decide_eq_false (by rw [h11]; exact hn0)) (Ret.ok (Ret.bind (Ret.cond (fun c => Ret.ok (Ret.ok ?_)) fun c => ?_)))))
        · have c := of_decide_eq_true c
          refine new ?_
          unfold grp
          rw [List.filter_eq_nil_iff]
          intro x hx
          have := hz x hx
          simp; omega
        · have c := of_decide_eq_false c
          have hza : F[n].about = z := by omega
          have hgl : (f :: L0).length ≤ 60 := by rw [← hgz]; exact (hsub.filter _).len
          refine Ret.ok (Ret.ok (Ret.bind (Ret.bind ?_)))
          have hc : (cond (!decide (F[n].cents = x11)) (some (decide (x10 = 2))) (some false)) = some (decide (x10 = 2) && !decide (F[n].cents = x11)) := by
            by_cases c1 : F[n].cents = x11 <;> by_cases c2 : x10 = 2 <;> simp [c1, c2]
          have key : ∀ y11 y12, Told.mk y11 y12 f.about (sid ((f :: L0) ++ [F[n]])) = told false ((f :: L0) ++ [F[n]]) → Ret (Option.bind (P.ref03_put (sid (f :: L0)) F[n].id) fun z66 => some (y11, y12, f.about, z66)) fun a => Ret (Option.bind (chk .i64 ((n : Int) + 1)) fun n80 => some (Sum.inl (n80, a.1, a.2.1, a.2.2.1, a.2.2.2) : (Int × Int × Int × Int × List Int) ⊕ (Int × Int × Int × List Int))) (Nxt (fun s' : Int × Int × Int × Int × List Int => (∃ n : Nat, s'.1 = n ∧ n ≤ F.length ∧ Told.mk s'.2.1 s'.2.2.1 s'.2.2.2.1 s'.2.2.2.2 = lastT (fk (F.take n) k)) ∧ F.length - s'.1.toNat < F.length - (n : Int).toNat) fun a => Ret (some (Told.mk a.1 a.2.1 a.2.2.1 a.2.2.2)) Q) := fun y11 y12 hy => by
            refine Ret.bind (r_sid (by omega) (Ret.ok (fin _ _ _ _ ?_)))
            rw [hst, lastT_snoc hF, hza, hgz]; exact hy
          have hag : ag false f F[n] = decide (F[n].cents = f.cents) := by unfold ag; simp
          have hcents : x10 = 2 → x11 = f.cents := fun c3 => by
            rw [h12]
            rw [h11] at c3
            rw [told_cons] at c3 ⊢
            split at c3
            · rename_i h; rw [if_pos h]
            · cases c3
          refine Ret.val hc (Ret.bind (Ret.cond (fun c => ?_) fun c => ?_))
          · refine Ret.ok (Ret.ok (key 1 0 ?_))
            rw [Bool.and_eq_true] at c
            have c3 := of_decide_eq_true c.1
            have c2 : ag false f F[n] = false := by
              rw [hag, ← hcents c3]; simpa using c.2
            rw [told_snoc, if_neg (by rw [c2]; simp)]
          · refine Ret.ok (Ret.ok (key x10 x11 ?_))
            rw [told_snoc]
            by_cases c3 : x10 = 2
            · rw [decide_eq_true c3, Bool.true_and] at c
              have c2 : ag false f F[n] = true := by
                rw [hag, ← hcents c3]; simpa using c
              rw [if_pos ⟨by rw [← h11]; exact c3, c2⟩, c3, hcents c3]
            · rw [if_neg (by rw [← h11]; exact fun h => c3 h.1)]
              rw [told_cons] at h11 h12
              split at h11
              · exact absurd h11 c3
              · rename_i h; rw [if_neg h] at h12; rw [h11, h12]
  · have : n = F.length := by have := of_decide_eq_false h1; omega
    subst this
    rw [List.take_length] at ht
    refine Ret.done (Ret.ok ?_)
    dsimp only
    rw [ht]; exact h
end
end S
end Go.Proofs.YtepjkmoipjeghaaDoor
namespace Go.Proofs.YtepjkmoipjeghaaDoor
open Go Go.Sx
namespace S
section
variable {F : List Report} (hF : FO F)
include hF
theorem r_rpaid {d : Int} (hd : ∃ r ∈ fk F 4, r.about = d) {Q : Span → Prop} (h : Q (pd (fk F 4) d)) : Ret (P.ref03_paid F d) Q := by
  have hFl := hF.len
  have hL : FO (fk F 4) := hF.filter _
  unfold P.ref03_paid
  have hgs : ∀ n (hlt : n < F.length), grp (fk (F.take (n + 1)) 4) d = grp (fk (F.take n) 4) d ++ if F[n].kind = 4 ∧ F[n].about = d then [F[n]] else [] := fun n hlt => by
    rw [fk_snoc hlt]
    by_cases c : F[n].kind = 4
    · rw [if_pos c, grp_snoc]
      by_cases c2 : F[n].about = d <;> simp [c, c2]
    · rw [if_neg c, List.append_nil, if_neg fun h => c h.1, List.append_nil]
  refine Ret.bind (Ret.loop (fun t : Bool × Int × Int × Int => ∃ n : Nat, t.2.1 = n ∧ n ≤ F.length ∧ (t.1 = true ∧ grp (fk (F.take n) 4) d = [] ∨ t.1 = false ∧ (∃ r ∈ grp (fk (F.take n) 4) d, sumL (fk F 4) d r.source = t.2.2.1) ∧ (∃ r ∈ grp (fk (F.take n) 4) d, sumL (fk F 4) d r.source = t.2.2.2) ∧ ∀ r ∈ grp (fk (F.take n) 4) d, t.2.2.1 ≤ sumL (fk F 4) d r.source ∧ sumL (fk F 4) d r.source ≤ t.2.2.2)) (fun t => F.length - t.2.1.toNat) ⟨0, rfl, Nat.zero_le _, .inl ⟨rfl, rfl⟩⟩ ?_)
  rintro ⟨x9, _, x11, x12⟩ ⟨n, rfl, hn, hI⟩
  dsimp only at hI ⊢
  refine Ret.cond (fun h1 => ?_) fun h1 => ?_
  · have hlt : n < F.length := by have := of_decide_eq_true h1; omega
    have g := List.getElem?_eq_getElem hlt
    have hg := hgs n hlt
    have fin : ∀ y9 y11 y12, (y9 = true ∧ grp (fk (F.take (n + 1)) 4) d = [] ∨ y9 = false ∧ (∃ r ∈ grp (fk (F.take (n + 1)) 4) d, sumL (fk F 4) d r.source = y11) ∧ (∃ r ∈ grp (fk (F.take (n + 1)) 4) d, sumL (fk F 4) d r.source = y12) ∧ ∀ r ∈ grp (fk (F.take (n + 1)) 4) d, y11 ≤ sumL (fk F 4) d r.source ∧ sumL (fk F 4) d r.source ≤ y12) → Ret (Option.bind (chk .i64 ((n : Int) + 1)) fun n152 => some (Sum.inl (y9, n152, y11, y12) : (Bool × Int × Int × Int) ⊕ (Int × Int))) (Nxt (fun s' : Bool × Int × Int × Int => (∃ n : Nat, s'.2.1 = n ∧ n ≤ F.length ∧ (s'.1 = true ∧ grp (fk (F.take n) 4) d = [] ∨ s'.1 = false ∧ (∃ r ∈ grp (fk (F.take n) 4) d, sumL (fk F 4) d r.source = s'.2.2.1) ∧ (∃ r ∈ grp (fk (F.take n) 4) d, sumL (fk F 4) d r.source = s'.2.2.2) ∧ ∀ r ∈ grp (fk (F.take n) 4) d, s'.2.2.1 ≤ sumL (fk F 4) d r.source ∧ sumL (fk F 4) d r.source ≤ s'.2.2.2)) ∧ F.length - s'.2.1.toNat < F.length - (n : Int).toNat) fun a => Ret (some (Span.mk a.1 a.2)) Q) := fun y9 y11 y12 h1 =>
      Ret.bind (Ret.chk (by omega) (Ret.next ⟨⟨n + 1, by dsimp only; omega, by omega, h1⟩, by dsimp only; omega⟩))
    have hb : Ret (Option.bind (ixo F (n : Int)) fun y14 => cond (!decide (y14.kind = 4)) (some true) (Option.bind (ixo F (n : Int)) fun y29 => some (!decide (y29.about = d)))) fun b => b = !decide (F[n].kind = 4 ∧ F[n].about = d) := by
      refine Ret.bind (Ret.ixo g ?_)
      by_cases c : F[n].kind = 4
      · rw [decide_eq_true c]
        exact Ret.condF rfl (Ret.bind (Ret.ixo g (Ret.ok (by simp [c]))))
      · rw [decide_eq_false c]
        exact Ret.condT rfl (Ret.ok (by simp [c]))
    refine Ret.bind (Ret.bind (hb.mono fun b hb => ?_))
    subst hb
    refine Ret.cond (fun h2 => ?_) fun h2 => ?_
    · have h2 : ¬ (F[n].kind = 4 ∧ F[n].about = d) := fun hh => by rw [decide_eq_true hh] at h2; cases h2
      rw [if_neg h2, List.append_nil] at hg
      exact Ret.ok (fin _ _ _ (by rw [hg]; exact hI))
    · have h2 : F[n].kind = 4 ∧ F[n].about = d := Classical.byContradiction fun hh => by rw [decide_eq_false hh] at h2; cases h2
      rw [if_pos h2] at hg
      -- the sum
      refine Ret.bind (Ret.loop (fun t : Int × Int => ∃ k : Nat, t.2 = k ∧ k ≤ F.length ∧ t.1 = sumL (fk (F.take k) 4) d F[n].source) (fun t => F.length - t.2.toNat) ⟨0, rfl, Nat.zero_le _, rfl⟩ ?_)
      rintro ⟨x45, _⟩ ⟨k, rfl, hk, hx⟩
      dsimp only at hx ⊢
      refine Ret.cond (fun h3 => ?_) fun h3 => ?_
      · have hkt : k < F.length := by have := of_decide_eq_true h3; omega
        have gk := List.getElem?_eq_getElem hkt
        have hst : sumL (fk (F.take (k + 1)) 4) d F[n].source = sumL (fk (F.take k) 4) d F[n].source + if F[k].kind = 4 ∧ F[k].about = d ∧ F[k].source = F[n].source then F[k].cents else 0 := by
          rw [fk_snoc hkt]
          by_cases c : F[k].kind = 4
          · rw [if_pos c, sumL_snoc]; simp [c]
          · rw [if_neg c, List.append_nil, if_neg fun h => c h.1, Int.add_zero]
        have hsub : FO (fk (F.take k) 4) := hF.sub (List.filter_sublist.trans (List.take_sublist _ _))
        have hbd := sumL_bd hsub.c d F[n].source
        have hsl := hsub.len
        have hck := hF.c F[k] (List.getElem_mem hkt)
        have hb : Ret (Option.bind (ixo F (k : Int)) fun y48 => cond (decide (y48.kind = 4)) (Option.bind (ixo F (k : Int)) fun y63 => cond (decide (y63.about = d)) (Option.bind (ixo F (k : Int)) fun y78 => Option.bind (ixo F (n : Int)) fun y92 => some (decide (y78.source = y92.source))) (some false)) (some false)) fun b => b = decide (F[k].kind = 4 ∧ F[k].about = d ∧ F[k].source = F[n].source) := by
          refine Ret.bind (Ret.ixo gk ?_)
          by_cases c : F[k].kind = 4
          · rw [decide_eq_true c]
            refine Ret.condT rfl (Ret.bind (Ret.ixo gk ?_))
            by_cases c2 : F[k].about = d
            · rw [decide_eq_true c2]
              exact Ret.condT rfl (Ret.bind (Ret.ixo gk (Ret.bind (Ret.ixo g (Ret.ok (by simp [c, c2]))))))
            · rw [decide_eq_false c2]
              exact Ret.condF rfl (Ret.ok (by simp [c2]))
          · rw [decide_eq_false c]
            exact Ret.condF rfl (Ret.ok (by simp [c]))
        refine Ret.bind (Ret.bind (hb.mono fun b hb => ?_))
        subst hb
        refine Ret.bind (Ret.cond (fun h4 => ?_) fun h4 => ?_)
        · have h4 := of_decide_eq_true h4
          refine Ret.bind (Ret.ixo gk (Ret.bind (Ret.chk (by omega) (Ret.ok (Ret.ok (Ret.bind (Ret.chk (by omega) (Ret.next ⟨⟨k + 1, by dsimp only; omega, by omega, ?_⟩, by dsimp only; omega⟩))))))))
          dsimp only
          rw [hst, if_pos h4, hx]
        · have h4 := of_decide_eq_false h4
          refine Ret.ok (Ret.ok (Ret.bind (Ret.chk (by omega) (Ret.next ⟨⟨k + 1, by dsimp only; omega, by omega, ?_⟩, by dsimp only; omega⟩))))
          dsimp only
          rw [hst, if_neg h4, hx, Int.add_zero]
      · have : k = F.length := by have := of_decide_eq_false h3; omega
        subst this
        rw [List.take_length] at hx
        refine Ret.done ?_
        rw [hx]
        refine Ret.bind (Ret.bind (Ret.cond (fun h4 => ?_) fun h4 => ?_))
        · rcases hI with ⟨_, h5⟩ | ⟨h5, _⟩
          · refine Ret.ok (Ret.ok (Ret.ok (fin _ _ _ (.inr ⟨rfl, ?_, ?_, ?_⟩))))
            · rw [hg, h5]; exact ⟨F[n], by simp, by rw [Int.min_self]⟩
            · rw [hg, h5]; exact ⟨F[n], by simp, by rw [Int.max_self]⟩
            · rw [hg, h5]
              intro r hr
              have : r = F[n] := by simpa using hr
              rw [this, Int.min_self, Int.max_self]
              exact ⟨Int.le_refl _, Int.le_refl _⟩
          · rw [h5] at h4; cases h4
        · rcases hI with ⟨h5, _⟩ | ⟨_, ⟨r1, q1, e1⟩, ⟨r2, q2, e2⟩, h7⟩
          · rw [h5] at h4; cases h4
          · refine Ret.ok (Ret.ok (Ret.ok (fin _ _ _ (.inr ⟨h4, ?_, ?_, fun r hr => ?_⟩))))
            · rw [hg]
              by_cases c : x11 ≤ sumL (fk F 4) d F[n].source
              · exact ⟨r1, List.mem_append_left _ q1, by dsimp only; rw [e1]; omega⟩
              · exact ⟨F[n], by simp, by dsimp only; omega⟩
            · rw [hg]
              by_cases c : sumL (fk F 4) d F[n].source ≤ x12
              · exact ⟨r2, List.mem_append_left _ q2, by dsimp only; rw [e2]; omega⟩
              · exact ⟨F[n], by simp, by dsimp only; omega⟩
            · rw [hg] at hr
              dsimp only
              rcases List.mem_append.1 hr with hr | hr
              · have := h7 r hr; omega
              · have : r = F[n] := by simpa using hr
                rw [this]; omega
  · have : n = F.length := by have := of_decide_eq_false h1; omega
    subst this
    rw [List.take_length] at hI
    refine Ret.done (Ret.ok ?_)
    dsimp only
    rcases hI with ⟨_, h5⟩ | ⟨_, h5⟩
    · obtain ⟨r, hr, e⟩ := hd
      have : r ∈ grp (fk F 4) d := List.mem_filter.2 ⟨hr, decide_eq_true e⟩
      rw [h5] at this; cases this
    · rw [pd_is (sp := ⟨x11, x12⟩) h5] at h
      exact h
theorem told_k (o : Bool) (L : List Report) : 0 ≤ (told o L).known ∧ (told o L).known ≤ 2 ∧ ((told o L).known = 0 ↔ L = []) := by
  cases L with
  | nil => exact ⟨by simp [told], by simp [told], by simp [told]⟩
  | cons f L =>
    rw [told_cons]
    split <;> simp
theorem lastT_k {L : List Report} (hs : L.Pairwise le) : 0 ≤ (lastT L).known ∧ (lastT L).known ≤ 2 ∧ ((lastT L).known = 0 ↔ L = []) := by
  by_cases c : L = []
  · subst c; exact ⟨by decide, by decide, by simp [lastT, told]⟩
  · obtain ⟨z, f, L0, _, _, _, h⟩ := lastT_at hF hs c
    have := told_k hF false (f :: L0)
    rw [h]
    exact ⟨this.1, this.2.1, by rw [this.2.2]; simp [c]⟩
theorem pd_bd {d : Int} : (0 ≤ (pd (fk F 4) d).lo ∧ (pd (fk F 4) d).lo ≤ 60000000000000) ∧ (0 ≤ (pd (fk F 4) d).hi ∧ (pd (fk F 4) d).hi ≤ 60000000000000) := by
  have hL : FO (fk F 4) := hF.filter _
  have hl := hL.len
  by_cases c : ∃ sp, Pd (fk F 4) d sp
  · obtain ⟨sp, hsp⟩ := c
    rw [pd_is hsp]
    obtain ⟨⟨r1, _, e1⟩, ⟨r2, _, e2⟩, _⟩ := hsp
    have b1 := sumL_bd hL.c d r1.source
    have b2 := sumL_bd hL.c d r2.source
    omega
  · have : pd (fk F 4) d = ⟨0, 0⟩ := by unfold pd; rw [dif_neg c]
    rw [this]; exact ⟨by decide, by decide⟩
theorem sum_map_bd {f : Int → Int} (hf : ∀ d, 0 ≤ f d ∧ f d ≤ 60000000000000) : ∀ l : List Int, 0 ≤ (l.map f).sum ∧ (l.map f).sum ≤ l.length * 60000000000000
  | [] => by simp
  | x :: l => by
    have h1 := sum_map_bd hf l
    have h2 := hf x
    simp only [List.map_cons, List.sum_cons, List.length_cons]
    omega
theorem r_Tell {Q : State → Prop} (h : Q (stF F)) : Ret (P.ref03_Tell F) Q := by
  have hFl := hF.len
  have k1 := told_k hF true (fk F 1)
  have k2 := lastT_k hF (L := fk F 2) (hF.filter _).s
  have k3 := lastT_k hF (L := fk F 3) (hF.filter _).s
  have k5 := lastT_k hF (L := fk F 5) (hF.filter _).s
  have k6 := told_k hF true (fk F 6)
  have k7 := told_k hF true (fk F 7)
  unfold P.ref03_Tell
  refine Ret.bind (r_ronce hF (Ret.bind (r_rlast hF (Ret.bind (r_rlast hF (Ret.bind (r_rlast hF (Ret.bind (r_ronce hF (Ret.bind (r_ronce hF ?_)))))))))))
  obtain ⟨n74, hn74⟩ : ∃ z, z = (told true (fk F 1)).known + (lastT (fk F 2)).known + (lastT (fk F 3)).known + (lastT (fk F 5)).known := ⟨_, rfl⟩
  refine Ret.bind (Ret.val (chk_in (InK.u8.2 (by omega))) (Ret.bind (Ret.val (chk_in (InK.u8.2 (by omega))) (Ret.bind (Ret.val (chk_in (InK.u8.2 (by omega))) ?_)))))
  rw [← hn74]
  obtain ⟨G, hG⟩ : ∃ G, G = fun n : Nat => dl (fk (F.take n) 4) := ⟨_, rfl⟩
  refine Ret.bind (Ret.loop (fun t : Bool × Int × Int × Int => ∃ n : Nat, t.2.1 = n ∧ n ≤ F.length ∧ t.1 = (decide (0 < n74) || decide (fk (F.take n) 4 ≠ [])) ∧ t.2.2.1 = ((dl (fk (F.take n) 4)).map fun d => (pd (fk F 4) d).lo).sum ∧ t.2.2.2 = ((dl (fk (F.take n) 4)).map fun d => (pd (fk F 4) d).hi).sum) (fun t => F.length - t.2.1.toNat) ⟨0, rfl, Nat.zero_le _, by simp [fk], rfl, rfl⟩ ?_)
  rintro ⟨x75, _, x77, x78⟩ ⟨n, rfl, hn, hx1, hx2, hx3⟩
  dsimp only at hx1 hx2 hx3 ⊢
  refine Ret.cond (fun h1 => ?_) fun h1 => ?_
  · have hlt : n < F.length := by have := of_decide_eq_true h1; omega
    have g := List.getElem?_eq_getElem hlt
    have hst := fk_snoc hlt 4
    have fin : ∀ y75 y77 y78, (y75 = (decide (0 < n74) || decide (fk (F.take (n + 1)) 4 ≠ [])) ∧ y77 = ((dl (fk (F.take (n + 1)) 4)).map fun d => (pd (fk F 4) d).lo).sum ∧ y78 = ((dl (fk (F.take (n + 1)) 4)).map fun d => (pd (fk F 4) d).hi).sum) → Ret (Option.bind (chk .i64 ((n : Int) + 1)) fun n163 => some (Sum.inl (y75, n163, y77, y78) : (Bool × Int × Int × Int) ⊕ (Bool × Int × Int))) (Nxt (fun s' : Bool × Int × Int × Int => (∃ n : Nat, s'.2.1 = n ∧ n ≤ F.length ∧ s'.1 = (decide (0 < n74) || decide (fk (F.take n) 4 ≠ [])) ∧ s'.2.2.1 = ((dl (fk (F.take n) 4)).map fun d => (pd (fk F 4) d).lo).sum ∧ s'.2.2.2 = ((dl (fk (F.take n) 4)).map fun d => (pd (fk F 4) d).hi).sum) ∧ F.length - s'.2.1.toNat < F.length - (n : Int).toNat) fun a => Ret (Option.bind (Option.bind (cond (decide (0 < (told true (fk F 7)).known)) (some 4) (Option.bind (cond (decide (0 < (told true (fk F 6)).known)) (some 3) (Option.bind (cond (decide ((lastT (fk F 5)).known = 1)) (some true) (some (decide (0 < (lastT (fk F 5)).cents)))) fun x176 => Option.bind (cond x176 (some 2) (Option.bind (cond a.1 (some 1) (some 0)) fun x185 => some x185)) fun x186 => some x186)) fun x187 => some x187)) fun x188 => some x188) fun x189 => some (State.mk (Told.mk (told true (fk F 1)).known (told true (fk F 1)).cents (told true (fk F 1)).since (told true (fk F 1)).by_) (Told.mk (lastT (fk F 2)).known (lastT (fk F 2)).cents (lastT (fk F 2)).since (lastT (fk F 2)).by_) (Told.mk (lastT (fk F 3)).known (lastT (fk F 3)).cents (lastT (fk F 3)).since (lastT (fk F 3)).by_) (Told.mk (lastT (fk F 5)).known (lastT (fk F 5)).cents (lastT (fk F 5)).since (lastT (fk F 5)).by_) (Told.mk (told true (fk F 6)).known (told true (fk F 6)).cents (told true (fk F 6)).since (told true (fk F 6)).by_) (Told.mk (told true (fk F 7)).known (told true (fk F 7)).cents (told true (fk F 7)).since (told true (fk F 7)).by_) (Span.mk a.2.1 a.2.2) x189)) Q) := fun y75 y77 y78 h1 =>
      Ret.bind (Ret.chk (by omega) (Ret.next ⟨⟨n + 1, by dsimp only; omega, by omega, h1⟩, by dsimp only; omega⟩))
    refine Ret.bind (Ret.bind (Ret.ixo g (Ret.cond (fun h2 => ?_) fun h2 => ?_)))
    · have h2 : F[n].kind ≠ 4 := by simpa using h2
      rw [if_neg h2, List.append_nil] at hst
      exact Ret.ok (fin _ _ _ (by rw [hst]; exact ⟨hx1, hx2, hx3⟩))
    · have h2 : F[n].kind = 4 := by simpa using h2
      rw [if_pos h2] at hst
      have hne : fk (F.take n) 4 ++ [F[n]] ≠ [] := by simp
      have hb : Ret (cond (decide (0 < (n : Int))) (Option.bind (cutHi F (n : Int)) fun l98 => Option.bind (ixo F (n : Int)) fun y99 => Option.bind (P.ref03_seen l98 y99.about) fun z113 => some z113) (some false)) fun b => b = decide (F[n].about ∈ dl (fk (F.take n) 4)) := by
        refine Ret.cond (fun h3 => ?_) fun h3 => ?_
        · refine Ret.bind (Ret.val (by unfold cutHi; rw [if_pos ⟨by omega, by omega⟩]; rfl) (Ret.bind (Ret.ixo g (Ret.bind (r_seen (by simp; omega) (Ret.ok rfl))))))
        · have : n = 0 := by have := of_decide_eq_false h3; omega
          subst this
          exact Ret.ok (by simp [fk, dl])
      refine Ret.bind (hb.mono fun b hb => ?_)
      subst hb
      refine Ret.cond (fun h3 => ?_) fun h3 => ?_
      · have h3 := of_decide_eq_true h3
        refine Ret.ok (fin _ _ _ ⟨?_, ?_, ?_⟩)
        · rw [hst, decide_eq_true hne, Bool.or_true]
        · rw [hst, dl_snoc, if_pos h3]; exact hx2
        · rw [hst, dl_snoc, if_pos h3]; exact hx3
      · have h3 := of_decide_eq_false h3
        have hd : ∃ r ∈ fk F 4, r.about = F[n].about := ⟨F[n], List.mem_filter.2 ⟨List.getElem_mem hlt, decide_eq_true h2⟩, rfl⟩
        have hb := pd_bd hF (d := F[n].about)
        have s1 := sum_map_bd hF (f := fun d => (pd (fk F 4) d).lo) (fun d => (pd_bd hF).1) (dl (fk (F.take n) 4))
        have s2 := sum_map_bd hF (f := fun d => (pd (fk F 4) d).hi) (fun d => (pd_bd hF).2) (dl (fk (F.take n) 4))
        have hdl := dl_len (fk (F.take n) 4)
        have hsl : (fk (F.take n) 4).length ≤ 60 := (hF.sub (List.filter_sublist.trans (List.take_sublist _ _))).len
        refine Ret.bind (Ret.ixo g (Ret.bind (r_rpaid hF hd (Ret.bind (Ret.chk (by omega) (Ret.bind (Ret.chk (by omega) (Ret.ok (fin _ _ _ ⟨?_, ?_, ?_⟩)))))))))
        · rw [hst, decide_eq_true hne, Bool.or_true]
        · rw [hst, dl_snoc, if_neg h3, List.map_append, List.sum_append, hx2]; simp
        · rw [hst, dl_snoc, if_neg h3, List.map_append, List.sum_append, hx3]; simp
  · have : n = F.length := by have := of_decide_eq_false h1; omega
    subst this
    rw [List.take_length] at hx1 hx2 hx3
    refine Ret.done ?_
    subst hx2 hx3
    have fin : ∀ x, x = (stF F).is_ → Ret (some (State.mk (told true (fk F 1)) (lastT (fk F 2)) (lastT (fk F 3)) (lastT (fk F 5)) (told true (fk F 6)) (told true (fk F 7)) (payF F) x)) Q := fun x hx => by
      refine Ret.ok ?_
      rw [hx]; exact h
    unfold stF at fin
    dsimp only at fin
    refine Ret.bind (Ret.bind ?_)
    by_cases c1 : (told true (fk F 7)).known = 0
    · rw [decide_eq_false (show ¬ 0 < (told true (fk F 7)).known by omega)]
      refine Ret.condF rfl (Ret.bind ?_)
      rw [if_neg (by simp [c1])] at fin
      by_cases c2 : (told true (fk F 6)).known = 0
      · rw [decide_eq_false (show ¬ 0 < (told true (fk F 6)).known by omega)]
        rw [if_neg (by simp [c2])] at fin
        have hc3 : (cond (decide ((lastT (fk F 5)).known = 1)) (some true) (some (decide (0 < (lastT (fk F 5)).cents)))) = some (decide ((lastT (fk F 5)).known = 1 ∨ 0 < (lastT (fk F 5)).cents)) := by
          by_cases c4 : (lastT (fk F 5)).known = 1 <;> simp [c4]
        refine Ret.condF rfl (Ret.bind (Ret.val hc3 (Ret.bind ?_)))
        by_cases c3 : (lastT (fk F 5)).known = 1 ∨ 0 < (lastT (fk F 5)).cents
        · rw [if_pos c3] at fin
          exact Ret.condT (decide_eq_true c3) (Ret.ok (Ret.ok (Ret.ok (Ret.ok (fin _ rfl)))))
        · rw [if_neg c3] at fin
          refine Ret.condF (decide_eq_false c3) (Ret.bind ?_)
          have hany : x75 = decide (0 < F.length) := by
            rw [hx1, Bool.eq_iff_iff]
            simp only [Bool.or_eq_true, decide_eq_true_eq]
            constructor
            · rintro (h9 | h9)
              · rcases Nat.eq_zero_or_pos F.length with h0 | h0
                · exfalso
                  have hF0 := List.eq_nil_of_length_eq_zero h0
                  subst hF0
                  have z1 := k1.2.2.2 rfl
                  have z2 := k2.2.2.2 rfl
                  have z3 := k3.2.2.2 rfl
                  have z5 := k5.2.2.2 rfl
                  omega
                · exact h0
              · rcases Nat.eq_zero_or_pos F.length with h0 | h0
                · exfalso
                  have hF0 := List.eq_nil_of_length_eq_zero h0
                  subst hF0
                  exact h9 rfl
                · exact h0
            · intro h0
              obtain ⟨r, hr⟩ := List.exists_mem_of_length_pos h0
              have hk := hF.k r hr
              have hin : ∀ k, r.kind = k → fk F k ≠ [] := fun k e h => by
                have : r ∈ fk F k := List.mem_filter.2 ⟨hr, decide_eq_true e⟩
                rw [h] at this; cases this
              have hk6 : r.kind ≠ 6 := fun e => hin 6 e (k6.2.2.1 c2)
              have hk7 : r.kind ≠ 7 := fun e => hin 7 e (k7.2.2.1 c1)
              have : r.kind = 1 ∨ r.kind = 2 ∨ r.kind = 3 ∨ r.kind = 4 ∨ r.kind = 5 := by omega
              rcases this with e | e | e | e | e
              · left; have : (told true (fk F 1)).known ≠ 0 := fun h9 => hin _ e (k1.2.2.1 h9)
                omega
              · left; have : (lastT (fk F 2)).known ≠ 0 := fun h9 => hin _ e (k2.2.2.1 h9)
                omega
              · left; have : (lastT (fk F 3)).known ≠ 0 := fun h9 => hin _ e (k3.2.2.1 h9)
                omega
              · right; exact hin _ e
              · left; have : (lastT (fk F 5)).known ≠ 0 := fun h9 => hin _ e (k5.2.2.1 h9)
                omega
          by_cases c5 : 0 < F.length
          · rw [if_pos c5] at fin
            exact Ret.condT (by rw [hany]; exact decide_eq_true c5) (Ret.ok (Ret.ok (Ret.ok (Ret.ok (Ret.ok (fin _ rfl))))))
          · rw [if_neg c5] at fin
            exact Ret.condF (by rw [hany]; exact decide_eq_false c5) (Ret.ok (Ret.ok (Ret.ok (Ret.ok (Ret.ok (fin _ rfl))))))
      · rw [decide_eq_true (show 0 < (told true (fk F 6)).known by omega)]
        rw [if_pos c2] at fin
        exact Ret.condT rfl (Ret.ok (Ret.ok (Ret.ok (fin _ rfl))))
    · rw [decide_eq_true (show 0 < (told true (fk F 7)).known by omega)]
      rw [if_pos c1] at fin
      exact Ret.condT rfl (Ret.ok (Ret.ok (fin _ rfl)))
end
section
variable {l : List Report} (hin : ∀ r ∈ l, InR r) {known : Int}
include hin
theorem r_rState {a day : Int} {Q : State × Int → Prop} (h : ∀ z, StS l a day known z → Q z) : Ret (P.ref03_State l a day known) Q := by
  unfold P.ref03_State
  refine Ret.bind (r_rcheck hin ?_)
  by_cases c : chkE l = 0
  · refine Ret.condF (by simp [c]) ?_
    have hcx : Option.bind (P.ref03_within a 0 999999) (fun z15 => cond (!z15) (some true) (Option.bind (P.ref03_within day 0 100000) fun z21 => cond (!z21) (some true) (Option.bind (P.ref03_within known 0 100000) fun z27 => some (!z27)))) = some (!(inB 0 999999 a && (inB 0 100000 day && inB 0 100000 known))) := by
      rw [p_within, bindS, p_within, bindS, p_within, bindS]
      cases inB 0 999999 a
      · rfl
      · cases inB 0 100000 day <;> rfl
    rw [hcx, bindS]
    cases ci : (inB 0 999999 a && (inB 0 100000 day && inB 0 100000 known)) with
    | false => exact Ret.condT rfl (Ret.ok (h _ (.inr (.inl ⟨c, ci, rfl⟩))))
    | true =>
      refine Ret.condF rfl ?_
      obtain ⟨K, hk, hk2⟩ := known_is (known := known) c
      have hK := ok_of c hk2
      refine Ret.bind (Ret.val hk (Ret.bind (r_standing hK fun out hp hs => ?_)))
      have hF0 := T_FO hK hp hs
      have hl0 := hF0.len
      refine Ret.bind (r_Of (by omega) (Ret.bind (r_Tell (hF0.filter _) (Ret.ok (h _ (.inr (.inr ⟨c, ci, K, out, hk, hk2, hp, hs, rfl⟩)))))))
  · exact Ret.condT (by simp [c]) (Ret.ok (h _ (.inl ⟨c, rfl⟩)))
end
end S
end Go.Proofs.YtepjkmoipjeghaaDoor
namespace Go.Proofs.YtepjkmoipjeghaaDoor
open Go Go.Sx
namespace S
theorem clash_cons {F : List Report} {k : Int} {o : Bool} {f : Report} {r : List Report} : clash F k o (f :: r) = if (if k = 4 then (pd (fk F 4) f.about).lo ≠ (pd (fk F 4) f.about).hi else (told o (f :: r)).known = 1) then [⟨k, f.about, sid (f :: r)⟩] else [] := rfl
section
variable {F : List Report} (hF : FO F)
include hF
/-- The facts of a kind about a day, as the reference collects them. -/
theorem r_group {k : Int} {n : Nat} (hlt : n < F.length) (hk : F[n].kind = k) {Q : List Int × Bool → Prop} (h : Q (sid (grp (fk F k) F[n].about), (grp (fk F k) F[n].about).any fun x => !decide (x.cents = F[n].cents))) :
    Ret (loopM (S := (List Int) × Bool × Int) (R := ((List Int) × Bool)) (fun (x138, x139, x140) => cond (decide (x140 < (F.length : Int))) (Option.bind (Option.bind (Option.bind (ixo F x140) fun y142 => Option.bind (ixo F (n : Int)) fun y156 => cond (decide (y142.kind = y156.kind)) (Option.bind (ixo F x140) fun y171 => some (decide (y171.about = F[n].about))) (some false)) fun x191 => Option.bind (cond x191 (Option.bind (ixo F x140) fun y193 => Option.bind (P.ref03_put x138 y193.id) fun z207 => Option.bind (cond x139 (some true) (Option.bind (ixo F x140) fun y218 => Option.bind (ixo F (n : Int)) fun y232 => some (!decide (y218.cents = y232.cents)))) fun x249 => some (z207, x249)) (some (x138, x139))) fun (x250, x251) => some (x250, x251)) fun (x252, x253) => Option.bind (chk .i64 (x140 + 1)) fun n254 => some (.inl (x252, x253, n254))) (some (.inr (x138, x139)))) ([], false, 0)) Q := by
  have hFl := hF.len
  have g := List.getElem?_eq_getElem hlt
  have hgs : ∀ j (hj : j < F.length), grp (fk (F.take (j + 1)) k) F[n].about = grp (fk (F.take j) k) F[n].about ++ if F[j].kind = k ∧ F[j].about = F[n].about then [F[j]] else [] := fun j hj => by
    rw [fk_snoc hj]
    by_cases c : F[j].kind = k
    · rw [if_pos c, grp_snoc]
      by_cases c2 : F[j].about = F[n].about <;> simp [c, c2]
    · rw [if_neg c, List.append_nil, if_neg fun h => c h.1, List.append_nil]
  refine Ret.loop (fun t : List Int × Bool × Int => ∃ j : Nat, t.2.2 = j ∧ j ≤ F.length ∧ t.1 = sid (grp (fk (F.take j) k) F[n].about) ∧ t.2.1 = (grp (fk (F.take j) k) F[n].about).any fun x => !decide (x.cents = F[n].cents)) (fun t => F.length - t.2.2.toNat) ⟨0, rfl, Nat.zero_le _, sid_nil.symm, rfl⟩ ?_
  rintro ⟨x138, x139, _⟩ ⟨j, rfl, hj, hx1, hx2⟩
  dsimp only at hx1 hx2 ⊢
  refine Ret.cond (fun h1 => ?_) fun h1 => ?_
  · have hjt : j < F.length := by have := of_decide_eq_true h1; omega
    have gj := List.getElem?_eq_getElem hjt
    have hg := hgs j hjt
    have hb : Ret (Option.bind (ixo F (j : Int)) fun y142 => Option.bind (ixo F (n : Int)) fun y156 => cond (decide (y142.kind = y156.kind)) (Option.bind (ixo F (j : Int)) fun y171 => some (decide (y171.about = F[n].about))) (some false)) fun b => b = decide (F[j].kind = k ∧ F[j].about = F[n].about) := by
      refine Ret.bind (Ret.ixo gj (Ret.bind (Ret.ixo g ?_)))
      rw [hk]
      by_cases c : F[j].kind = k
      · rw [decide_eq_true c]
        exact Ret.condT rfl (Ret.bind (Ret.ixo gj (Ret.ok (by simp [c]))))
      · rw [decide_eq_false c]
        exact Ret.condF rfl (Ret.ok (by simp [c]))
    have hgl : (grp (fk (F.take j) k) F[n].about).length ≤ 60 := (hF.sub (List.filter_sublist.trans (List.filter_sublist.trans (List.take_sublist _ _)))).len
    have fin : ∀ y1 y2, (y1 = sid (grp (fk (F.take (j + 1)) k) F[n].about) ∧ y2 = (grp (fk (F.take (j + 1)) k) F[n].about).any fun x => !decide (x.cents = F[n].cents)) → Ret (Option.bind (chk .i64 ((j : Int) + 1)) fun n254 => some (Sum.inl (y1, y2, n254) : (List Int × Bool × Int) ⊕ (List Int × Bool))) (Nxt (fun s' : List Int × Bool × Int => (∃ j : Nat, s'.2.2 = j ∧ j ≤ F.length ∧ s'.1 = sid (grp (fk (F.take j) k) F[n].about) ∧ s'.2.1 = (grp (fk (F.take j) k) F[n].about).any fun x => !decide (x.cents = F[n].cents)) ∧ F.length - s'.2.2.toNat < F.length - (j : Int).toNat) Q) := fun y1 y2 h1 =>
      Ret.bind (Ret.chk (by omega) (Ret.next ⟨⟨j + 1, by dsimp only; omega, by omega, h1⟩, by dsimp only; omega⟩))
    refine Ret.bind (Ret.bind (hb.mono fun b hb => ?_))
    subst hb
    refine Ret.bind (Ret.cond (fun h2 => ?_) fun h2 => ?_)
    · rw [if_pos (of_decide_eq_true h2)] at hg
      rw [hx1]
      refine Ret.bind (Ret.ixo gj (Ret.bind (r_sid (by omega) (Ret.bind ?_))))
      have hd : Ret (cond x139 (some true) (Option.bind (ixo F (j : Int)) fun y218 => Option.bind (ixo F (n : Int)) fun y232 => some (!decide (y218.cents = y232.cents)))) fun b => b = (grp (fk (F.take (j + 1)) k) F[n].about).any fun x => !decide (x.cents = F[n].cents) := by
        rw [hg, List.any_append, ← hx2]
        cases x139 with
        | true => exact Ret.condT rfl (Ret.ok rfl)
        | false => exact Ret.condF rfl (Ret.bind (Ret.ixo gj (Ret.bind (Ret.ixo g (Ret.ok (by simp))))))
      refine hd.mono fun b hb => Ret.ok (Ret.ok (fin _ _ ⟨by rw [hg], hb⟩))
    · rw [if_neg (of_decide_eq_false h2), List.append_nil] at hg
      exact Ret.ok (Ret.ok (fin _ _ (by rw [hg]; exact ⟨hx1, hx2⟩)))
  · have : j = F.length := by have := of_decide_eq_false h1; omega
    subst this
    rw [List.take_length] at hx1 hx2
    refine Ret.done ?_
    rw [hx1, hx2]; exact h
theorem r_rClK {k : Int} (hk : 1 ≤ k ∧ k ≤ 7) (ho : onlyK k = false) {out0 : List Clash} (h0 : out0.length ≤ 420) {Q : List Clash → Prop} (h : Q (out0 ++ clK F k)) :
    Ret (loopM (S := (List Clash) × Int × Int) (R := ((List Clash))) (fun (x88, x89, x90) => cond (decide (x90 < (F.length : Int))) (Option.bind (Option.bind (Option.bind (ixo F x90) fun y92 => Option.bind (chk .i64 y92.kind) fun n106 => cond (!decide (n106 = k)) (some true) (Option.bind (ixo F x90) fun y108 => some (decide (y108.about = x89)))) fun x122 => cond x122 (some (x88, x89)) (Option.bind (ixo F x90) fun y124 => Option.bind (loopM (S := (List Int) × Bool × Int) (R := ((List Int) × Bool)) (fun (x138, x139, x140) => cond (decide (x140 < (F.length : Int))) (Option.bind (Option.bind (Option.bind (ixo F x140) fun y142 => Option.bind (ixo F x90) fun y156 => cond (decide (y142.kind = y156.kind)) (Option.bind (ixo F x140) fun y171 => some (decide (y171.about = y124.about))) (some false)) fun x191 => Option.bind (cond x191 (Option.bind (ixo F x140) fun y193 => Option.bind (P.ref03_put x138 y193.id) fun z207 => Option.bind (cond x139 (some true) (Option.bind (ixo F x140) fun y218 => Option.bind (ixo F x90) fun y232 => some (!decide (y218.cents = y232.cents)))) fun x249 => some (z207, x249)) (some (x138, x139))) fun (x250, x251) => some (x250, x251)) fun (x252, x253) => Option.bind (chk .i64 (x140 + 1)) fun n254 => some (.inl (x252, x253, n254))) (some (.inr (x138, x139)))) ([], false, 0)) fun (x255, x256) => Option.bind (Option.bind (cond (decide (k = 4)) (Option.bind (P.ref03_paid F y124.about) fun z258 => some (!decide (z258.lo = z258.hi))) (some x256)) fun x274 => some x274) fun x275 => Option.bind (cond x275 (Option.bind (chk .u8 k) fun n277 => Option.bind (appo 40 x88 ([(Clash.mk n277 y124.about x255)] : List Clash)) fun l286 => some l286) (some x88)) fun x291 => some (x291, y124.about))) fun (x292, x293) => Option.bind (chk .i64 (x90 + 1)) fun n294 => some (.inl (x292, x293, n294))) (some (.inr x88))) (out0, (-1), 0)) Q := by
  have hFl := hF.len
  unfold clK at h
  rw [if_neg (by rw [ho]; decide)] at h
  refine Ret.loop (fun t : List Clash × Int × Int => ∃ n : Nat, t.2.2 = n ∧ n ≤ F.length ∧ t.1 = out0 ++ (dl (fk (F.take n) k)).flatMap (fun d => clash F k false (grp (fk F k) d)) ∧ (∀ x ∈ fk (F.take n) k, x.about ≤ t.2.1) ∧ (fk (F.take n) k = [] ∧ t.2.1 = -1 ∨ t.2.1 ∈ dl (fk (F.take n) k))) (fun t => F.length - t.2.2.toNat) ⟨0, rfl, Nat.zero_le _, by simp [fk, dl], (fun x hx => by simp [fk] at hx), .inl ⟨rfl, rfl⟩⟩ ?_
  rintro ⟨x88, x89, _⟩ ⟨n, rfl, hn, hx1, hx2, hx3⟩
  dsimp only at hx1 hx2 hx3 ⊢
  refine Ret.cond (fun h1 => ?_) fun h1 => ?_
  · have hlt : n < F.length := by have := of_decide_eq_true h1; omega
    have g := List.getElem?_eq_getElem hlt
    have hst := fk_snoc hlt k
    have hkn := hF.k F[n] (List.getElem_mem hlt)
    have han := hF.a F[n] (List.getElem_mem hlt)
    have fin : ∀ y1 y2, (y1 = out0 ++ (dl (fk (F.take (n + 1)) k)).flatMap (fun d => clash F k false (grp (fk F k) d)) ∧ (∀ x ∈ fk (F.take (n + 1)) k, x.about ≤ y2) ∧ (fk (F.take (n + 1)) k = [] ∧ y2 = -1 ∨ y2 ∈ dl (fk (F.take (n + 1)) k))) → Ret (Option.bind (chk .i64 ((n : Int) + 1)) fun n294 => some (Sum.inl (y1, y2, n294) : (List Clash × Int × Int) ⊕ List Clash)) (Nxt (fun s' : List Clash × Int × Int => (∃ n : Nat, s'.2.2 = n ∧ n ≤ F.length ∧ s'.1 = out0 ++ (dl (fk (F.take n) k)).flatMap (fun d => clash F k false (grp (fk F k) d)) ∧ (∀ x ∈ fk (F.take n) k, x.about ≤ s'.2.1) ∧ (fk (F.take n) k = [] ∧ s'.2.1 = -1 ∨ s'.2.1 ∈ dl (fk (F.take n) k))) ∧ F.length - s'.2.2.toNat < F.length - (n : Int).toNat) Q) := fun y1 y2 h1 =>
      Ret.bind (Ret.chk (by omega) (Ret.next ⟨⟨n + 1, by dsimp only; omega, by omega, h1⟩, by dsimp only; omega⟩))
    have hb : Ret (Option.bind (ixo F (n : Int)) fun y92 => Option.bind (chk .i64 y92.kind) fun n106 => cond (!decide (n106 = k)) (some true) (Option.bind (ixo F (n : Int)) fun y108 => some (decide (y108.about = x89)))) fun b => b = !decide (F[n].kind = k ∧ F[n].about ≠ x89) := by
      refine Ret.bind (Ret.ixo g (Ret.bind (Ret.chk (by omega) ?_)))
      by_cases c : F[n].kind = k
      · rw [decide_eq_true c]
        exact Ret.condF rfl (Ret.bind (Ret.ixo g (Ret.ok (by simp [c]))))
      · rw [decide_eq_false c]
        exact Ret.condT rfl (Ret.ok (by simp [c]))
    refine Ret.bind (Ret.bind (hb.mono fun b hb => ?_))
    subst hb
    refine Ret.cond (fun h2 => ?_) fun h2 => ?_
    · have h2 : ¬ (F[n].kind = k ∧ F[n].about ≠ x89) := fun hh => by rw [decide_eq_true hh] at h2; cases h2
      refine Ret.ok (fin _ _ ?_)
      by_cases c : F[n].kind = k
      · rw [if_pos c] at hst
        have e : F[n].about = x89 := Classical.byContradiction fun hh => h2 ⟨c, hh⟩
        have hm : x89 ∈ dl (fk (F.take n) k) := by
          rcases hx3 with ⟨_, h9⟩ | h9
          · omega
          · exact h9
        rw [hst, dl_snoc, e, if_pos hm]
        refine ⟨hx1, fun x hx => ?_, .inr hm⟩
        rcases List.mem_append.1 hx with hx | hx
        · exact hx2 x hx
        · have : x = F[n] := by simpa using hx
          rw [this, e]; exact Int.le_refl _
      · rw [if_neg c, List.append_nil] at hst
        rw [hst]; exact ⟨hx1, hx2, hx3⟩
    · have h2 : F[n].kind = k ∧ F[n].about ≠ x89 := Classical.byContradiction fun hh => by rw [decide_eq_false hh] at h2; cases h2
      rw [if_pos h2.1] at hst
      have hle := le_take hF.s hlt
      have hnm : ¬ F[n].about ∈ dl (fk (F.take n) k) := fun hm => by
        obtain ⟨x, hx, e⟩ := dl_mem.1 hm
        rcases hx3 with ⟨h9, _⟩ | h9
        · rw [h9] at hx; cases hx
        · obtain ⟨y, hy, e2⟩ := dl_mem.1 h9
          have l1 := hx2 x hx
          have l2 := hle y (fk_take hy).1
          have := h2.2
          unfold le at l2; omega
      have hrG : F[n] ∈ grp (fk F k) F[n].about := List.mem_filter.2 ⟨List.mem_filter.2 ⟨List.getElem_mem hlt, decide_eq_true h2.1⟩, by simp⟩
      have hdl : dl (fk (F.take (n + 1)) k) = dl (fk (F.take n) k) ++ [F[n].about] := by rw [hst, dl_snoc, if_neg hnm]
      have fin2 : ∀ y1, y1 = x88 ++ clash F k false (grp (fk F k) F[n].about) → Ret (Option.bind (chk .i64 ((n : Int) + 1)) fun n294 => some (Sum.inl (y1, F[n].about, n294) : (List Clash × Int × Int) ⊕ List Clash)) (Nxt (fun s' : List Clash × Int × Int => (∃ n : Nat, s'.2.2 = n ∧ n ≤ F.length ∧ s'.1 = out0 ++ (dl (fk (F.take n) k)).flatMap (fun d => clash F k false (grp (fk F k) d)) ∧ (∀ x ∈ fk (F.take n) k, x.about ≤ s'.2.1) ∧ (fk (F.take n) k = [] ∧ s'.2.1 = -1 ∨ s'.2.1 ∈ dl (fk (F.take n) k))) ∧ F.length - s'.2.2.toNat < F.length - (n : Int).toNat) Q) := fun y1 hy => by
        refine fin _ _ ⟨?_, fun x hx => ?_, .inr (by rw [hdl]; simp)⟩
        · rw [hdl, List.flatMap_append, ← List.append_assoc, ← hx1, hy]; simp
        · rw [hst] at hx
          rcases List.mem_append.1 hx with hx | hx
          · have l2 := hle x (fk_take hx).1
            unfold le at l2; omega
          · have : x = F[n] := by simpa using hx
            rw [this]; exact Int.le_refl _
      have holen : x88.length ≤ 480 := by
        rw [hx1, List.length_append]
        have h3 := flat_len (fun d => clash_len F k false (grp (fk F k) d)) (dl (fk (F.take n) k))
        have h4 := dl_len (fk (F.take n) k)
        have h5 : (fk (F.take n) k).length ≤ 60 := (hF.sub (List.filter_sublist.trans (List.take_sublist _ _))).len
        omega
      refine Ret.bind (Ret.ixo g (Ret.bind (r_group hF hlt h2.1 (Ret.bind (Ret.bind ?_)))))
      obtain ⟨f, G, hG⟩ : ∃ f G, grp (fk F k) F[n].about = f :: G := by
        cases hc : grp (fk F k) F[n].about with
        | nil => rw [hc] at hrG; cases hrG
        | cons f G => exact ⟨f, G, rfl⟩
      have hfa : f.about = F[n].about := of_decide_eq_true (List.mem_filter.1 (show f ∈ grp (fk F k) F[n].about by rw [hG]; exact List.mem_cons_self ..)).2
      have hcond : Ret (cond (decide (k = 4)) (Option.bind (P.ref03_paid F F[n].about) fun z258 => some (!decide (z258.lo = z258.hi))) (some ((grp (fk F k) F[n].about).any fun x => !decide (x.cents = F[n].cents)))) fun b => b = decide (if k = 4 then (pd (fk F 4) f.about).lo ≠ (pd (fk F 4) f.about).hi else (told false (f :: G)).known = 1) := by
        by_cases c : k = 4
        · rw [decide_eq_true c]
          refine Ret.condT rfl (Ret.bind (r_rpaid hF ⟨F[n], List.mem_filter.2 ⟨List.getElem_mem hlt, decide_eq_true (by rw [← c]; exact h2.1)⟩, rfl⟩ (Ret.ok ?_)))
          simp only [if_pos c]
          rw [hfa]; simp
        · rw [decide_eq_false c]
          refine Ret.condF rfl (Ret.ok ?_)
          simp only [if_neg c]
          rw [hG] at hrG ⊢
          rw [Bool.eq_iff_iff, decide_eq_true_eq, List.any_eq_true, told_cons]
          constructor
          · rintro ⟨x, hx, hxc⟩
            rw [if_neg]
            intro hall
            have hall := List.all_eq_true.1 hall
            have a1 := hall x hx
            have a2 := hall F[n] hrG
            unfold ag at a1 a2
            simp at a1 a2 hxc
            omega
          · intro hk1
            refine Classical.byContradiction fun hno => ?_
            rw [if_pos] at hk1
            · cases hk1
            · refine List.all_eq_true.2 fun x hx => ?_
              have e1 : x.cents = F[n].cents := Classical.byContradiction fun hh => hno ⟨x, hx, by simpa using hh⟩
              have e2 : f.cents = F[n].cents := Classical.byContradiction fun hh => hno ⟨f, List.mem_cons_self .., by simpa using hh⟩
              unfold ag
              simp; omega
      refine hcond.mono fun b hb => Ret.ok (Ret.bind ?_)
      subst hb
      have hu8 : chk .u8 k = some k := chk_in (InK.u8.2 (by omega))
      refine Ret.cond (fun c => ?_) fun c => ?_
      · refine Ret.bind (Ret.val hu8 (Ret.bind (Ret.appo (by simp; omega) (by simp; omega) (Ret.ok (Ret.ok (fin2 _ ?_))))))
        rw [hG, clash_cons, if_pos (of_decide_eq_true c), hfa]
      · refine Ret.ok (Ret.ok (fin2 _ ?_))
        rw [hG, clash_cons, if_neg (of_decide_eq_false c), List.append_nil]
  · have : n = F.length := by have := of_decide_eq_false h1; omega
    subst this
    rw [List.take_length] at hx1
    refine Ret.done ?_
    rw [hx1]; exact h
end
section
variable {l : List Report} (hin : ∀ r ∈ l, InR r) {known : Int}
include hin
theorem r_rClashes {a : Int} {Q : List Clash × Int → Prop} (h : ∀ z, StC l a known z → Q z) : Ret (P.ref03_Clashes l a known) Q := by
  unfold P.ref03_Clashes
  refine Ret.bind (r_rcheck hin ?_)
  by_cases c : chkE l = 0
  · refine Ret.condF (by simp [c]) ?_
    have hcx : Option.bind (P.ref03_within a 0 999999) (fun z8 => cond (!z8) (some true) (Option.bind (P.ref03_within known 0 100000) fun z14 => some (!z14))) = some (!(inB 0 999999 a && inB 0 100000 known)) := by
      rw [p_within, bindS, p_within, bindS]
      cases inB 0 999999 a <;> rfl
    rw [hcx, bindS]
    cases ci : (inB 0 999999 a && inB 0 100000 known) with
    | false => exact Ret.condT rfl (Ret.ok (h _ (.inr (.inl ⟨c, ci, rfl⟩))))
    | true =>
      refine Ret.condF rfl ?_
      obtain ⟨K, hk, hk2⟩ := known_is (known := known) c
      have hK := ok_of c hk2
      refine Ret.bind (Ret.val hk (Ret.bind (r_standing hK fun out hp hs => ?_)))
      have hF0 := T_FO hK hp hs
      have hl0 := hF0.len
      refine Ret.bind (r_Of (by omega) ?_)
      obtain ⟨F, hFe⟩ : ∃ F, out.filter (ofA a 100000) = F := ⟨_, rfl⟩
      have hF : FO F := hFe ▸ hF0.filter _
      rw [hFe]
      refine Ret.bind (Ret.loop (fun t : List Report × List Clash × Int => ∃ n : Nat, t.2.2 = (n : Int) + 1 ∧ n ≤ 7 ∧ t.1 = F ∧ t.2.1 = (ks n).flatMap (clK F)) (fun t => 8 - t.2.2.toNat) ⟨0, rfl, Nat.zero_le _, rfl, rfl⟩ ?_)
      rintro ⟨G0, x, _⟩ ⟨n, rfl, hn, hG0, hx⟩
      dsimp only at hG0 hx ⊢
      rw [hG0]
      refine Ret.cond (fun h1 => ?_) fun h1 => ?_
      · have hlt : n < 7 := by have := of_decide_eq_true h1; omega
        have hxl : x.length ≤ 420 := by
          have := flat_len (fun k => clK_len hF k) (ks n)
          have hkl : (ks n).length = n := by simp [ks]
          rw [hx]; rw [hkl] at this; omega
        have hu8 : chk .u8 ((n : Int) + 1) = some ((n : Int) + 1) := chk_in (InK.u8.2 (by omega))
        obtain ⟨k, hk9⟩ : ∃ k, k = (n : Int) + 1 := ⟨_, rfl⟩
        have fin : ∀ y, y = x ++ clK F k → Ret (Option.bind (chk .i64 ((n : Int) + 1 + 1)) fun n297 => some (Sum.inl (F, y, n297) : (List Report × List Clash × Int) ⊕ List Clash)) (Nxt (fun s' : List Report × List Clash × Int => (∃ n : Nat, s'.2.2 = (n : Int) + 1 ∧ n ≤ 7 ∧ s'.1 = F ∧ s'.2.1 = (ks n).flatMap (clK F)) ∧ 8 - s'.2.2.toNat < 8 - ((n : Int) + 1).toNat) fun a => Ret (some (a, 0)) Q) := fun y hy => by
          refine Ret.bind (Ret.chk (by omega) (Ret.next ⟨⟨n + 1, by dsimp only; omega, by omega, rfl, ?_⟩, by dsimp only; omega⟩))
          dsimp only
          rw [ks_succ, List.flatMap_append, hy, hx, ← hk9]; simp
        have hon : (cond (decide ((n : Int) + 1 = 1)) (some true) (some (decide (6 ≤ (n : Int) + 1)))) = some (onlyK k) := by
          unfold onlyK
          rw [hk9]
          by_cases c1 : (n : Int) + 1 = 1
          · simp [c1]
          · rw [decide_eq_false c1]
            refine congrArg some ?_
            rw [Bool.eq_iff_iff, decide_eq_true_eq, decide_eq_true_eq]; omega
        refine Ret.bind (Ret.bind (Ret.val hon ?_))
        rw [← hk9] at hu8 ⊢
        cases hO : onlyK k with
        | true =>
          have hk4 : k ≠ 4 := fun e => by subst e; cases hO
          have hcl : clK F k = clash F k true (fk F k) := by unfold clK; rw [if_pos hO]
          rw [hcl] at fin
          refine Ret.condT rfl (Ret.bind (Ret.bind (Ret.val hu8 (Ret.bind (r_ronce hF (Ret.bind ?_))))))
          cases hL : fk F k with
          | nil =>
            rw [hL] at fin
            exact Ret.condF rfl (Ret.ok (Ret.ok (Ret.ok (by rw [hk9]; exact fin _ (by simp [clash])))))
          | cons f G =>
            rw [hL, clash_cons] at fin
            simp only [if_neg hk4] at fin
            refine Ret.cond (fun c9 => ?_) fun c9 => ?_
            · have c9 := of_decide_eq_true c9
              rw [if_pos c9] at fin
              have e1 : (told true (f :: G)).since = f.about ∧ (told true (f :: G)).by_ = sid (f :: G) := by rw [told_cons]; split <;> exact ⟨rfl, rfl⟩
              rw [e1.1, e1.2]
              exact Ret.bind (Ret.val hu8 (Ret.bind (Ret.appo (by simp; omega) (by simp; omega) (Ret.ok (Ret.ok (Ret.ok (by rw [hk9]; exact fin _ (by rw [hk9]))))))))
            · rw [if_neg (of_decide_eq_false c9)] at fin
              exact Ret.ok (Ret.ok (Ret.ok (by rw [hk9]; exact fin _ (by simp))))
        | false =>
          refine Ret.condF rfl (Ret.bind (r_rClK hF (by omega) hO hxl (Ret.ok (by rw [hk9]; exact fin _ (by rw [hk9])))))
      · have hge : n = 7 := by have := of_decide_eq_false h1; omega
        subst hge
        refine Ret.done (Ret.ok (h _ (.inr (.inr ⟨c, ci, K, out, hk, hk2, hp, hs, ?_⟩))))
        rw [hx, hFe]; rfl
  · exact Ret.condT (by simp [c]) (Ret.ok (h _ (.inl ⟨c, rfl⟩)))
end
end S
end Go.Proofs.YtepjkmoipjeghaaDoor
