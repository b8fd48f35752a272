/-
  Part AccountStates 6 of the texts that the statement's proof stands on: what memory holds, how code is walked, what the functions reckon. In the order in which they build.
-/
import Derived.Test.YtepjkmoipjeghaaDoorProg
import Derived.Test.YtepjkmoipjeghaaDoorAdAccountStates5
set_option linter.unusedVariables false
set_option linter.unusedSectionVars false
set_option maxRecDepth 20000
set_option maxHeartbeats 4000000
namespace Go.Proofs.YtepjkmoipjeghaaDoor
open Go Go.Sx Go.RowKit
variable [Trk]
noncomputable def P.ref03_Tell (l : (List Report)) : Option State :=
  Option.bind (P.ref03_once l 1) fun z5 => Option.bind (P.ref03_last l 2) fun z15 => Option.bind (P.ref03_last l 3) fun z25 => Option.bind (P.ref03_last l 5) fun z35 => Option.bind (P.ref03_once l 6) fun z45 => Option.bind (P.ref03_once l 7) fun z55 => Option.bind (chk .u8 (z5.known + z15.known)) fun n72 => Option.bind (chk .u8 (n72 + z25.known)) fun n73 => Option.bind (chk .u8 (n73 + z35.known)) fun n74 => Option.bind (loopM (S := Bool × Int × Int × Int) (R := (Bool × Int × Int)) (fun (x75, x76, x77, x78) => cond (decide (x76 < (l.length : Int))) (Option.bind (Option.bind (ixo l x76) fun y80 => cond (!decide (y80.kind = 4)) (some (x75, x77, x78)) (Option.bind (cond (decide (0 < x76)) (Option.bind (cutHi l x76) fun l98 => Option.bind (ixo l x76) fun y99 => Option.bind (P.ref03_seen l98 y99.about) fun z113 => some z113) (some false)) fun x123 => cond x123 (some (true, x77, x78)) (Option.bind (ixo l x76) fun y125 => Option.bind (P.ref03_paid l y125.about) fun z139 => Option.bind (chk .i64 (x77 + z139.lo)) fun n155 => Option.bind (chk .i64 (x78 + z139.hi)) fun n156 => some (true, n155, n156)))) fun (x160, x161, x162) => Option.bind (chk .i64 (x76 + 1)) fun n163 => some (.inl (x160, n163, x161, x162))) (some (.inr (x75, x77, x78)))) (decide (0 < n74), 0, 0, 0)) fun (x164, x165, x166) => Option.bind (Option.bind (cond (decide (0 < z55.known)) (some 4) (Option.bind (cond (decide (0 < z45.known)) (some 3) (Option.bind (cond (decide (z35.known = 1)) (some true) (some (decide (0 < z35.cents)))) fun x176 => Option.bind (cond x176 (some 2) (Option.bind (cond x164 (some 1) (some 0)) fun x185 => some x185)) fun x186 => some x186)) fun x187 => some x187)) fun x188 => some x188) fun x189 => some (State.mk (Told.mk z5.known z5.cents z5.since z5.by_) (Told.mk z15.known z15.cents z15.since z15.by_) (Told.mk z25.known z25.cents z25.since z25.by_) (Told.mk z35.known z35.cents z35.since z35.by_) (Told.mk z45.known z45.cents z45.since z45.by_) (Told.mk z55.known z55.cents z55.since z55.by_) (Span.mk x165 x166) x189)
theorem C_ref03_Tell {M : List Nat} {w : World} (hM : MLt M w) {l : (List Report)} {v_l_0 : Value} (f_l_0 : RdS ReportE M w v_l_0 l) {r0 : State} (h : P.ref03_Tell l = some r0) :
  Calls Tryd.prog 55 (List.toArray [v_l_0]) w fun e w' => ∃ v0_3 : Value, ∃ v0_7 : Value, ∃ v0_11 : Value, ∃ v0_15 : Value, ∃ v0_19 : Value, ∃ v0_23 : Value, e = .returned (Value.agg (List.toArray [vu r0.opened.known, vi r0.opened.cents, vi r0.opened.since, v0_3, vu r0.limit.known, vi r0.limit.cents, vi r0.limit.since, v0_7, vu r0.owed.known, vi r0.owed.cents, vi r0.owed.since, v0_11, vu r0.late.known, vi r0.late.cents, vi r0.late.since, v0_15, vu r0.default.known, vi r0.default.cents, vi r0.default.since, v0_19, vu r0.closed.known, vi r0.closed.cents, vi r0.closed.since, v0_23, vi r0.paid.lo, vi r0.paid.hi, vu r0.is_])) ∧ InK .u8 r0.opened.known ∧ InK .i64 r0.opened.cents ∧ InK .i64 r0.opened.since ∧ RdS (intE .i64) M w' v0_3 r0.opened.by_ ∧ InK .u8 r0.limit.known ∧ InK .i64 r0.limit.cents ∧ InK .i64 r0.limit.since ∧ RdS (intE .i64) M w' v0_7 r0.limit.by_ ∧ InK .u8 r0.owed.known ∧ InK .i64 r0.owed.cents ∧ InK .i64 r0.owed.since ∧ RdS (intE .i64) M w' v0_11 r0.owed.by_ ∧ InK .u8 r0.late.known ∧ InK .i64 r0.late.cents ∧ InK .i64 r0.late.since ∧ RdS (intE .i64) M w' v0_15 r0.late.by_ ∧ InK .u8 r0.default.known ∧ InK .i64 r0.default.cents ∧ InK .i64 r0.default.since ∧ RdS (intE .i64) M w' v0_19 r0.default.by_ ∧ InK .u8 r0.closed.known ∧ InK .i64 r0.closed.cents ∧ InK .i64 r0.closed.since ∧ RdS (intE .i64) M w' v0_23 r0.closed.by_ ∧ InK .i64 r0.paid.lo ∧ InK .i64 r0.paid.hi ∧ InK .u8 r0.is_ ∧ Ext w w' := by
 have hI := Hp.start (Mu := []) hM
 refine calls_cw Tryd.func55 rfl Tryd.ntmps55 rfl ?_
 refine cw_seq (cw_regF (y_al hI Tryd.zeroValue42 rfl rfl ?_))
 intro b1 w2 hI3 x4
 refine Reg.nil (cw_seq (cw_regF (s_mv rfl rfl ?_)))
 obtain ⟨z5, hz6, h⟩ := bnd h
 refine s_call rfl Tryd.call62 rfl ?_
 refine (C_ref03_once hI3.mlt (f_l_0.adv hI3.adv) (by decide) hz6).mono ?_
 rintro _ w7 ⟨v12, rfl, r9, r10, r11, hf13, e8⟩
 refine ⟨_, rfl, ?_⟩
 have hI14 := hI3.ext e8
 refine s_mv rfl rfl ?_
 obtain ⟨z15, hz16, h⟩ := bnd h
 refine s_call rfl Tryd.call87 rfl ?_
 refine (C_ref03_last hI14.mlt (f_l_0.adv hI14.adv) (by decide) hz16).mono ?_
 rintro _ w17 ⟨v22, rfl, r19, r20, r21, hf23, e18⟩
 refine ⟨_, rfl, ?_⟩
 have hI24 := hI14.ext e18
 refine s_mv rfl rfl ?_
 obtain ⟨z25, hz26, h⟩ := bnd h
 refine s_call rfl Tryd.call87 rfl ?_
 refine (C_ref03_last hI24.mlt (f_l_0.adv hI24.adv) (by decide) hz26).mono ?_
 rintro _ w27 ⟨v32, rfl, r29, r30, r31, hf33, e28⟩
 refine ⟨_, rfl, ?_⟩
 have hI34 := hI24.ext e28
 refine s_mv rfl rfl ?_
 obtain ⟨z35, hz36, h⟩ := bnd h
 refine s_call rfl Tryd.call87 rfl ?_
 refine (C_ref03_last hI34.mlt (f_l_0.adv hI34.adv) (by decide) hz36).mono ?_
 rintro _ w37 ⟨v42, rfl, r39, r40, r41, hf43, e38⟩
 refine ⟨_, rfl, ?_⟩
 have hI44 := hI34.ext e38
 refine s_mv rfl rfl ?_
 obtain ⟨z45, hz46, h⟩ := bnd h
 refine s_call rfl Tryd.call62 rfl ?_
 refine (C_ref03_once hI44.mlt (f_l_0.adv hI44.adv) (by decide) hz46).mono ?_
 rintro _ w47 ⟨v52, rfl, r49, r50, r51, hf53, e48⟩
 refine ⟨_, rfl, ?_⟩
 have hI54 := hI44.ext e48
 refine s_mv rfl rfl ?_
 obtain ⟨z55, hz56, h⟩ := bnd h
 refine s_call rfl Tryd.call62 rfl ?_
 refine (C_ref03_once hI54.mlt (f_l_0.adv hI54.adv) (by decide) hz56).mono ?_
 rintro _ w57 ⟨v62, rfl, r59, r60, r61, hf63, e58⟩
 refine ⟨_, rfl, ?_⟩
 have hI64 := hI54.ext e58
 refine s_bd [(0, 4), (4, 4), (8, 4), (12, 4), (16, 4), (20, 4), (24, 2), (26, 1)] Tryd.zeroValue42 rfl Tryd.underlying42 (fun _ => by simp [Tryd.sizeOf38, Tryd.sizeOf40, Tryd.sizeOf5]) rfl (Cls.cons rfl (Cls.cons rfl (Cls.cons rfl (Cls.cons rfl (Cls.cons rfl (Cls.cons rfl (Cls.nil))))))) rfl rfl ?_
 refine y_al hI64 Tryd.zeroValue42 rfl rfl ?_
 intro b65 w66 hI67 x68
 refine y_st 0 hI67 rfl rfl rfl rfl Tryd.sizeOf42 rfl rfl (one1 rfl (one1 rfl (one1 rfl (one1 (RdS.oneC hf13) (one1 rfl (one1 rfl (one1 rfl (one1 (RdS.oneC hf23) (one1 rfl (one1 rfl (one1 rfl (one1 (RdS.oneC hf33) (one1 rfl (one1 rfl (one1 rfl (one1 (RdS.oneC hf43) (one1 rfl (one1 rfl (one1 rfl (one1 (RdS.oneC hf53) (one1 rfl (one1 rfl (one1 rfl (one1 (RdS.oneC hf63) (on3 rfl rfl rfl))))))))))))))))))))))))) ?_
 intro w69 hI70 x71
 refine Reg.nil (cw_seq (cw_regF (s_fa rfl Tryd.underlying42 rfl Tryd.sizeOf38 rfl (s_fa rfl Tryd.underlying38 rfl Tryd.sizeOf5 rfl (s_ld rfl ((hI70.row 0 rfl).rd.cells.at 0 rfl) Tryd.isAgg5 rfl (s_fa rfl Tryd.underlying42 rfl Tryd.sizeOf38 rfl (s_fa rfl Tryd.underlying38 rfl Tryd.sizeOf5 rfl (s_ld rfl ((hI70.row 0 rfl).rd.cells.at 4 rfl) Tryd.isAgg5 rfl ?_))))))))
 obtain ⟨n72, hn72, h⟩ := bnd h
 replace hn72 := chk_out hn72
 refine p_add rfl rfl rfl hn72 (s_fa rfl Tryd.underlying42 rfl Tryd.sizeOf38 rfl (s_fa rfl Tryd.underlying38 rfl Tryd.sizeOf5 rfl (s_ld rfl ((hI70.row 0 rfl).rd.cells.at 8 rfl) Tryd.isAgg5 rfl ?_)))
 obtain ⟨n73, hn73, h⟩ := bnd h
 replace hn73 := chk_out hn73
 refine p_add rfl rfl rfl hn73 (s_fa rfl Tryd.underlying42 rfl Tryd.sizeOf38 rfl (s_fa rfl Tryd.underlying38 rfl Tryd.sizeOf5 rfl (s_ld rfl ((hI70.row 0 rfl).rd.cells.at 12 rfl) Tryd.isAgg5 rfl ?_)))
 obtain ⟨n74, hn74, h⟩ := bnd h
 replace hn74 := chk_out hn74
 refine p_add rfl rfl rfl hn74 (s_gtr rfl rfl rfl (s_as rfl rfl (Reg.nil (cw_seq (cw_seq (cw_regF (s_as rfl rfl (Reg.nil ?_))))))))
 obtain ⟨j75, h76, h⟩ := bnd h
 refine cw_keep [0, 4, 5, 2, 3] rfl (cw_unitD 3 (ι := Bool × Int × Int) (fun ⟨x77, x78, x80⟩ => [(4, Value.bool x77)]) (fun ⟨x77, x78, x80⟩ => fun w82 => Hp w [] M [rowR 42 b65 (tV z5 v12 (tV z15 v22 (tV z25 v32 (tV z35 v42 (tV z45 v52 (tV z55 v62 [vi x78, vi x80, vu 0])))))), rowR 42 b1 zSt] w82 ∧ Adv (mm [rowR 42 b65 (tV z5 v12 (tV z15 v22 (tV z25 v32 (tV z35 v42 (tV z45 v52 (tV z55 v62 [vi 0, vi 0, vu 0])))))), rowR 42 b1 zSt] M) (mm [rowR 42 b65 (tV z5 v12 (tV z15 v22 (tV z25 v32 (tV z35 v42 (tV z45 v52 (tV z55 v62 [vi x78, vi x80, vu 0])))))), rowR 42 b1 zSt] M) w69 w82 ∧ InK .i64 x78 ∧ InK .i64 x80 ∧ (x77, x78, x80) = j75) ?_ ?_)
 ·refine cw_block (cw_keep [4, 5, 0, 2, 3] rfl ?_)
  refine cw_loopM 2 (ι := Bool × Int × Int × Int) _ (fun ⟨x85, x86, x88, x90⟩ => [(4, Value.bool x85), (5, vi x86)]) (fun ⟨x85, x86, x88, x90⟩ => (x85, x86, x88, x90)) (fun ⟨x85, x86, x88, x90⟩ => fun w92 => Hp w [] M [rowR 42 b65 (tV z5 v12 (tV z15 v22 (tV z25 v32 (tV z35 v42 (tV z45 v52 (tV z55 v62 [vi x88, vi x90, vu 0])))))), rowR 42 b1 zSt] w92 ∧ Adv (mm [rowR 42 b65 (tV z5 v12 (tV z15 v22 (tV z25 v32 (tV z35 v42 (tV z45 v52 (tV z55 v62 [vi 0, vi 0, vu 0])))))), rowR 42 b1 zSt] M) (mm [rowR 42 b65 (tV z5 v12 (tV z15 v22 (tV z25 v32 (tV z35 v42 (tV z45 v52 (tV z55 v62 [vi x88, vi x90, vu 0])))))), rowR 42 b1 zSt] M) w69 w92 ∧ InK .i64 x86 ∧ InK .i64 x88 ∧ InK .i64 x90) (decide (0 < n74), 0, 0, 0) h76 ⟨hI70, (Adv.refl _ _), (by decide), (by decide), (by decide)⟩ (sb5 rfl rfl rfl rfl rfl) ?_
  rintro ⟨x85, x86, x88, x90⟩ w92 ⟨hI93, hA94, r87, r89, r91⟩ y95 h96 hR97
  refine cw_seq (cw_seq (cw_regF (s_mv rfl rfl (s_mv rfl rfl (s_len rfl (f_l_0.adv hI93.adv) Tryd.underlying22 rfl (s_lss rfl rfl rfl (Reg.nil (cw_cond rfl (fun hc98 => ?_) (fun hc98 => ?_)))))))))
  ·replace h96 := cdT hc98 h96
   refine cw_skip ?_
   obtain ⟨j99, h100, h96⟩ := bnd h96
   refine cw_keep [4, 0, 2, 3, 5] rfl (cw_seqD 1 (ι := Bool × Int × Int) (fun ⟨x101, x102, x104⟩ => [(4, Value.bool x101)]) (fun ⟨x101, x102, x104⟩ => fun w106 => Hp w [] M [rowR 42 b65 (tV z5 v12 (tV z15 v22 (tV z25 v32 (tV z35 v42 (tV z45 v52 (tV z55 v62 [vi x102, vi x104, vu 0])))))), rowR 42 b1 zSt] w106 ∧ Adv (mm [rowR 42 b65 (tV z5 v12 (tV z15 v22 (tV z25 v32 (tV z35 v42 (tV z45 v52 (tV z55 v62 [vi x88, vi x90, vu 0])))))), rowR 42 b1 zSt] M) (mm [rowR 42 b65 (tV z5 v12 (tV z15 v22 (tV z25 v32 (tV z35 v42 (tV z45 v52 (tV z55 v62 [vi x102, vi x104, vu 0])))))), rowR 42 b1 zSt] M) w92 w106 ∧ InK .i64 x102 ∧ InK .i64 x104 ∧ (x101, x102, x104) = j99) ?_ ?_)
   ·refine cw_block (cw_seq (cw_seq (cw_regF (s_mv rfl rfl (s_mv rfl rfl ?_)))))
    obtain ⟨y109, hy109, h100⟩ := bnd h100
    refine p_ia rfl rfl (f_l_0.adv hI93.adv) hy109 Tryd.underlying22 Tryd.sizeOf61 rfl ?_
    intro b110 o111 cs112 hR113 hC114
    obtain ⟨rfl, r115, r116, r117, r118, r119, r120, r121, r122⟩ := ReportE_R.1 hR113
    refine s_fa rfl Tryd.underlying61 rfl Tryd.sizeOf5 rfl (s_ld rfl (hC114.cells.at 5 rfl) Tryd.isAgg5 rfl (s_neq rfl rfl rfl (Reg.nil (cw_cond rfl (fun hc123 => ?_) (fun hc123 => ?_)))))
    ·replace h100 := cdT hc123 h100
     refine cw_exit (exB_same ?_)
     obtain rfl := Option.some.inj h100
     refine ⟨rfl, (x85, x88, x90), ⟨hI93, (Adv.refl _ _), r89, r91, rfl⟩, sb5 rfl rfl rfl rfl rfl⟩
    replace h100 := cdF hc123 h100
    refine cw_skip (cw_seq (cw_regF (s_as rfl rfl (Reg.nil (cw_seq ?_)))))
    obtain ⟨j124, h125, h100⟩ := bnd h100
    refine cw_keep [0, 2, 3, 4, 5] rfl (cw_seqD 0 (ι := Bool) (fun x126 => [(60, Value.bool x126)]) (fun x126 => fun w127 => Hp w [] M [rowR 42 b65 (tV z5 v12 (tV z15 v22 (tV z25 v32 (tV z35 v42 (tV z45 v52 (tV z55 v62 [vi x88, vi x90, vu 0])))))), rowR 42 b1 zSt] w127 ∧ Adv (mm [rowR 42 b65 (tV z5 v12 (tV z15 v22 (tV z25 v32 (tV z35 v42 (tV z45 v52 (tV z55 v62 [vi x88, vi x90, vu 0])))))), rowR 42 b1 zSt] M) (mm [rowR 42 b65 (tV z5 v12 (tV z15 v22 (tV z25 v32 (tV z35 v42 (tV z45 v52 (tV z55 v62 [vi x88, vi x90, vu 0])))))), rowR 42 b1 zSt] M) w92 w127 ∧ x126 = j124) ?_ ?_)
    ·refine cw_regT fol (by kernel_rfl) ?_
     refine s_mv rfl rfl (s_gtr rfl rfl rfl (s_mv rfl rfl (Reg.gsplit (t := 50) rfl (fun hg130 => ?_) (fun hg130 => ?_))))
     ·replace h125 := cdT hg130 h125
      refine Reg.take rfl rfl (s_mv rfl rfl (Reg.take rfl rfl (s_mv rfl rfl (Reg.take rfl rfl ?_))))
      obtain ⟨l133, hl133, h125⟩ := bnd h125
      obtain ⟨hbl133, el133⟩ := cutHi_out hl133
      refine s_slH rfl rfl (f_l_0.adv hI93.adv) hbl133 Tryd.underlying22 Tryd.sizeOf61 rfl ?_
      rw [← el133]; intro v131 hf132 _
      refine Reg.take rfl rfl (s_mv rfl rfl (Reg.take rfl rfl (s_mv rfl rfl (Reg.take rfl rfl ?_))))
      obtain ⟨y134, hy134, h125⟩ := bnd h125
      refine p_ia rfl rfl (f_l_0.adv hI93.adv) hy134 Tryd.underlying22 Tryd.sizeOf61 rfl ?_
      intro b135 o136 cs137 hR138 hC139
      obtain ⟨rfl, r140, r141, r142, r143, r144, r145, r146, r147⟩ := ReportE_R.1 hR138
      refine Reg.take rfl rfl (s_fa rfl Tryd.underlying61 rfl Tryd.sizeOf3 rfl (Reg.take rfl rfl (s_ld rfl (hC139.cells.at 4 rfl) Tryd.isAgg3 rfl (Reg.take rfl rfl ?_))))
      obtain ⟨z148, hz149, h125⟩ := bnd h125
      refine s_callq rfl rfl Tryd.call88 rfl (fun w150 e151 => (C_ref03_seen (hI93.mlt.ext e151) (hf132.adv (Adv.of_ext e151)) r144 hz149).mono (fun _ _ hq => ⟨hq.1, hq.2⟩)) ?_
      refine s_pkT rfl rfl rfl (Reg.nilq (fun w152 e153 => ?_))
      have hI154 := hI93.ext e153
      obtain rfl := Option.some.inj h125
      refine ⟨rfl, z148, ⟨hI154, (Adv.of_ext e153), rfl⟩, sb6 rfl rfl rfl rfl rfl rfl⟩
     replace h125 := cdF hg130 h125
     iterate 9 refine Reg.pass rfl rfl rfl rfl ?_
     refine s_pkF rfl rfl rfl (Reg.nilq (fun w155 e156 => ?_))
     have hI157 := hI93.ext e156
     obtain rfl := Option.some.inj h125
     refine ⟨rfl, false, ⟨hI157, (Adv.of_ext e156), rfl⟩, sb6 rfl rfl rfl rfl rfl rfl⟩
    rintro x126 w127 ⟨hI128, hA129, rfl⟩
    refine cw_cond rfl (fun hc158 => ?_) (fun hc158 => ?_)
    ·replace h100 := cdT hc158 h100
     refine cw_exit (exB_same ?_)
     obtain rfl := Option.some.inj h100
     refine ⟨rfl, (true, x88, x90), ⟨hI128, hA129, r89, r91, rfl⟩, sb5 rfl rfl rfl rfl rfl⟩
    replace h100 := cdF hc158 h100
    refine cw_skip (cw_seq (cw_regF ?_))
    iterate 3 refine s_mv rfl rfl ?_
    obtain ⟨y159, hy159, h100⟩ := bnd h100
    refine p_ia rfl rfl (f_l_0.adv hI128.adv) hy159 Tryd.underlying22 Tryd.sizeOf61 rfl ?_
    intro b160 o161 cs162 hR163 hC164
    obtain ⟨rfl, r165, r166, r167, r168, r169, r170, r171, r172⟩ := ReportE_R.1 hR163
    refine s_fa rfl Tryd.underlying61 rfl Tryd.sizeOf3 rfl (s_ld rfl (hC164.cells.at 4 rfl) Tryd.isAgg3 rfl ?_)
    obtain ⟨z173, hz174, h100⟩ := bnd h100
    refine s_call rfl Tryd.call64 rfl ((C_ref03_paid hI128.mlt (f_l_0.adv hI128.adv) r169 hz174).mono ?_)
    rintro _ w175 ⟨rfl, r177, r178, e176⟩
    refine ⟨_, rfl, ?_⟩
    have hI179 := hI128.ext e176
    refine y_al hI179 Tryd.zeroValue40 rfl rfl ?_
    intro b180 w181 hI182 x183
    refine y_st 0 hI182 rfl rfl rfl rfl Tryd.sizeOf40 rfl rfl (on2 rfl rfl) ?_
    intro w184 hI185 x186
    have hC188 := hI185.freezeRow 0 rfl
    have hI187 := hI185.erase 0
    refine Reg.nil (cw_regF (s_fa rfl Tryd.underlying42 rfl Tryd.sizeOf40 rfl (s_fa rfl Tryd.underlying40 rfl Tryd.sizeOf3 rfl (s_ld rfl ((hI187.row 0 rfl).rd.cells.at 24 rfl) Tryd.isAgg3 rfl (s_fa rfl Tryd.underlying40 rfl Tryd.sizeOf3 rfl (s_ld rfl (hC188.cells.at 0 rfl) Tryd.isAgg3 rfl ?_))))))
    obtain ⟨n189, hn189, h100⟩ := bnd h100
    replace hn189 := chk_out hn189
    refine p_add rfl rfl rfl hn189 (s_fa rfl Tryd.underlying42 rfl Tryd.sizeOf40 rfl (s_fa rfl Tryd.underlying40 rfl Tryd.sizeOf3 rfl (s_ld rfl ((hI187.row 0 rfl).rd.cells.at 25 rfl) Tryd.isAgg3 rfl (s_fa rfl Tryd.underlying40 rfl Tryd.sizeOf3 rfl (s_ld rfl (hC188.cells.at 1 rfl) Tryd.isAgg3 rfl ?_)))))
    obtain ⟨n190, hn190, h100⟩ := bnd h100
    replace hn190 := chk_out hn190
    refine p_add rfl rfl rfl hn190 ?_
    refine s_bd [(0, 1), (1, 1)] Tryd.zeroValue40 rfl Tryd.underlying40 (fun _ => by simp [Tryd.sizeOf3]) rfl (Cls.cons rfl (Cls.cons rfl (Cls.nil))) rfl rfl ?_
    refine s_fa rfl Tryd.underlying42 rfl Tryd.sizeOf40 rfl (y_st 0 hI187 rfl rfl rfl rfl Tryd.sizeOf40 rfl rfl (on2 rfl rfl) ?_)
    intro w191 hI192 x193
    refine Reg.nil ?_
    obtain rfl := Option.some.inj h100
    refine ⟨rfl, (true, n189, n190), ⟨hI192, (hA129.trans ((Adv.of_ext e176).trans (x183.trans (x186.trans ((hI185.eraseH 0).trans x193))))), hn189.2, hn190.2, rfl⟩, sb5 rfl rfl rfl rfl rfl⟩
   rintro ⟨x101, x102, x104⟩ w106 ⟨hI107, hA108, r103, r105, rfl⟩
   refine cw_regF (s_mv rfl rfl ?_)
   obtain ⟨n194, hn194, h96⟩ := bnd h96
   replace hn194 := chk_out hn194
   refine p_add rfl rfl rfl hn194 (s_as rfl rfl (Reg.nil ?_))
   obtain rfl := Option.some.inj h96
   refine ⟨rfl, (x101, n194, x102, x104), ⟨⟨hI107, (hA94.trans hA108), hn194.2, r103, r105⟩, rfl⟩, sb5 rfl rfl rfl rfl rfl⟩
  replace h96 := cdF hc98 h96
  refine cw_exit (exB_same ?_)
  obtain rfl := Option.some.inj h96
  obtain rfl := hR97 _ rfl
  refine ⟨rfl, (x85, x88, x90), ⟨hI93, hA94, r89, r91, rfl⟩, sb3 rfl rfl rfl⟩
 rintro ⟨x77, x78, x80⟩ w82 ⟨hI83, hA84, r79, r81, rfl⟩
 obtain ⟨j195, h196, h⟩ := bnd h
 refine cw_keep [4, 2, 3] rfl (cw_seqD 1 (ι := Int) (fun x197 => []) (fun x197 => fun w199 => Hp w [] M [rowR 42 b65 (tV z5 v12 (tV z15 v22 (tV z25 v32 (tV z35 v42 (tV z45 v52 (tV z55 v62 [vi x78, vi x80, vu x197])))))), rowR 42 b1 zSt] w199 ∧ Adv (mm [rowR 42 b65 (tV z5 v12 (tV z15 v22 (tV z25 v32 (tV z35 v42 (tV z45 v52 (tV z55 v62 [vi x78, vi x80, vu 0])))))), rowR 42 b1 zSt] M) (mm [rowR 42 b65 (tV z5 v12 (tV z15 v22 (tV z25 v32 (tV z35 v42 (tV z45 v52 (tV z55 v62 [vi x78, vi x80, vu x197])))))), rowR 42 b1 zSt] M) w82 w199 ∧ InK .u8 x197 ∧ x197 = j195) ?_ ?_)
 ·refine cw_seq (cw_regF (s_fa rfl Tryd.underlying42 rfl Tryd.sizeOf38 rfl (s_fa rfl Tryd.underlying38 rfl Tryd.sizeOf5 rfl (s_ld rfl ((hI83.row 0 rfl).rd.cells.at 20 rfl) Tryd.isAgg5 rfl (s_gtr rfl rfl rfl (Reg.nil ?_))))))
  obtain ⟨j202, h203, h196⟩ := bnd h196
  refine cw_keep [4, 85, 2, 3] rfl (cw_unitD 2 (ι := Int) (fun x204 => []) (fun x204 => fun w206 => Hp w [] M [rowR 42 b65 (tV z5 v12 (tV z15 v22 (tV z25 v32 (tV z35 v42 (tV z45 v52 (tV z55 v62 [vi x78, vi x80, vu x204])))))), rowR 42 b1 zSt] w206 ∧ Adv (mm [rowR 42 b65 (tV z5 v12 (tV z15 v22 (tV z25 v32 (tV z35 v42 (tV z45 v52 (tV z55 v62 [vi x78, vi x80, vu 0])))))), rowR 42 b1 zSt] M) (mm [rowR 42 b65 (tV z5 v12 (tV z15 v22 (tV z25 v32 (tV z35 v42 (tV z45 v52 (tV z55 v62 [vi x78, vi x80, vu x204])))))), rowR 42 b1 zSt] M) w82 w206 ∧ InK .u8 x204 ∧ x204 = j202) ?_ ?_)
  ·refine cw_cond rfl (fun hc209 => ?_) (fun hc209 => ?_)
   ·replace h203 := cdT hc209 h203
    refine cw_regF (s_fa rfl Tryd.underlying42 rfl Tryd.sizeOf5 rfl (y_st 0 hI83 rfl rfl rfl rfl Tryd.sizeOf5 rfl rfl (one1 rfl one0) ?_))
    intro w210 hI211 x212
    refine Reg.nil ?_
    obtain rfl := Option.some.inj h203
    refine ⟨rfl, 4, ⟨hI211, x212, (by decide), rfl⟩, sb2 rfl rfl⟩
   replace h203 := cdF hc209 h203
   refine cw_seq (cw_regF (s_fa rfl Tryd.underlying42 rfl Tryd.sizeOf38 rfl (s_fa rfl Tryd.underlying38 rfl Tryd.sizeOf5 rfl (s_ld rfl ((hI83.row 0 rfl).rd.cells.at 16 rfl) Tryd.isAgg5 rfl (s_gtr rfl rfl rfl (Reg.nil ?_))))))
   obtain ⟨j213, h214, h203⟩ := bnd h203
   refine cw_keep [4, 90, 2, 3] rfl (cw_unitD 2 (ι := Int) (fun x215 => []) (fun x215 => fun w217 => Hp w [] M [rowR 42 b65 (tV z5 v12 (tV z15 v22 (tV z25 v32 (tV z35 v42 (tV z45 v52 (tV z55 v62 [vi x78, vi x80, vu x215])))))), rowR 42 b1 zSt] w217 ∧ Adv (mm [rowR 42 b65 (tV z5 v12 (tV z15 v22 (tV z25 v32 (tV z35 v42 (tV z45 v52 (tV z55 v62 [vi x78, vi x80, vu 0])))))), rowR 42 b1 zSt] M) (mm [rowR 42 b65 (tV z5 v12 (tV z15 v22 (tV z25 v32 (tV z35 v42 (tV z45 v52 (tV z55 v62 [vi x78, vi x80, vu x215])))))), rowR 42 b1 zSt] M) w82 w217 ∧ InK .u8 x215 ∧ x215 = j213) ?_ ?_)
   ·refine cw_cond rfl (fun hc220 => ?_) (fun hc220 => ?_)
    ·replace h214 := cdT hc220 h214
     refine cw_regF (s_fa rfl Tryd.underlying42 rfl Tryd.sizeOf5 rfl (y_st 0 hI83 rfl rfl rfl rfl Tryd.sizeOf5 rfl rfl (one1 rfl one0) ?_))
     intro w221 hI222 x223
     refine Reg.nil ?_
     obtain rfl := Option.some.inj h214
     refine ⟨rfl, 3, ⟨hI222, x223, (by decide), rfl⟩, sb2 rfl rfl⟩
    replace h214 := cdF hc220 h214
    obtain ⟨j224, h225, h214⟩ := bnd h214
    refine cw_keep [2, 3, 4] rfl (cw_seqD 0 (ι := Bool) (fun x226 => [(101, Value.bool x226)]) (fun x226 => fun w227 => w82 = w227 ∧ x226 = j224) ?_ ?_)
    ·refine cw_regF (s_fa rfl Tryd.underlying42 rfl Tryd.sizeOf38 rfl (s_fa rfl Tryd.underlying38 rfl Tryd.sizeOf5 rfl (s_ld rfl ((hI83.row 0 rfl).rd.cells.at 12 rfl) Tryd.isAgg5 rfl (s_eql rfl rfl rfl (s_mv rfl rfl (Reg.gsplit (t := 96) rfl (fun hg230 => ?_) (fun hg230 => ?_)))))))
     ·replace h225 := cdT hg230 h225
      iterate 4 refine Reg.pass rfl rfl rfl rfl ?_
      refine s_pkT rfl rfl rfl (Reg.nil ?_)
      obtain rfl := Option.some.inj h225
      refine ⟨rfl, true, ⟨rfl, rfl⟩, sb4 rfl rfl rfl rfl⟩
     replace h225 := cdF hg230 h225
     refine Reg.take rfl rfl (s_fa rfl Tryd.underlying42 rfl Tryd.sizeOf38 rfl (Reg.take rfl rfl (s_fa rfl Tryd.underlying38 rfl Tryd.sizeOf3 rfl (Reg.take rfl rfl (s_ld rfl ((hI83.row 0 rfl).rd.cells.at 13 rfl) Tryd.isAgg3 rfl (Reg.take rfl rfl (s_gtr rfl rfl rfl (s_pkF rfl rfl rfl (Reg.nil ?_)))))))))
     obtain rfl := Option.some.inj h225
     refine ⟨rfl, decide (0 < z35.cents), ⟨rfl, rfl⟩, sb4 rfl rfl rfl rfl⟩
    rintro x226 _ ⟨rfl, rfl⟩
    obtain ⟨j231, h232, h214⟩ := bnd h214
    refine cw_keep [4, 101, 2, 3] rfl (cw_unitD 2 (ι := Int) (fun x233 => []) (fun x233 => fun w235 => Hp w [] M [rowR 42 b65 (tV z5 v12 (tV z15 v22 (tV z25 v32 (tV z35 v42 (tV z45 v52 (tV z55 v62 [vi x78, vi x80, vu x233])))))), rowR 42 b1 zSt] w235 ∧ Adv (mm [rowR 42 b65 (tV z5 v12 (tV z15 v22 (tV z25 v32 (tV z35 v42 (tV z45 v52 (tV z55 v62 [vi x78, vi x80, vu 0])))))), rowR 42 b1 zSt] M) (mm [rowR 42 b65 (tV z5 v12 (tV z15 v22 (tV z25 v32 (tV z35 v42 (tV z45 v52 (tV z55 v62 [vi x78, vi x80, vu x233])))))), rowR 42 b1 zSt] M) w82 w235 ∧ InK .u8 x233 ∧ x233 = j231) ?_ ?_)
    ·refine cw_cond rfl (fun hc238 => ?_) (fun hc238 => ?_)
     ·replace h232 := cdT hc238 h232
      refine cw_regF (s_fa rfl Tryd.underlying42 rfl Tryd.sizeOf5 rfl (y_st 0 hI83 rfl rfl rfl rfl Tryd.sizeOf5 rfl rfl (one1 rfl one0) ?_))
      intro w239 hI240 x241
      refine Reg.nil ?_
      obtain rfl := Option.some.inj h232
      refine ⟨rfl, 2, ⟨hI240, x241, (by decide), rfl⟩, sb2 rfl rfl⟩
     replace h232 := cdF hc238 h232
     refine cw_seq (cw_regF (s_mv rfl rfl (Reg.nil ?_)))
     obtain ⟨j242, h243, h232⟩ := bnd h232
     refine cw_keep [103, 2, 3] rfl (cw_unitD 1 (ι := Int) (fun x244 => []) (fun x244 => fun w246 => Hp w [] M [rowR 42 b65 (tV z5 v12 (tV z15 v22 (tV z25 v32 (tV z35 v42 (tV z45 v52 (tV z55 v62 [vi x78, vi x80, vu x244])))))), rowR 42 b1 zSt] w246 ∧ Adv (mm [rowR 42 b65 (tV z5 v12 (tV z15 v22 (tV z25 v32 (tV z35 v42 (tV z45 v52 (tV z55 v62 [vi x78, vi x80, vu 0])))))), rowR 42 b1 zSt] M) (mm [rowR 42 b65 (tV z5 v12 (tV z15 v22 (tV z25 v32 (tV z35 v42 (tV z45 v52 (tV z55 v62 [vi x78, vi x80, vu x244])))))), rowR 42 b1 zSt] M) w82 w246 ∧ InK .u8 x244 ∧ x244 = j242) ?_ ?_)
     ·refine cw_cond rfl (fun hc249 => ?_) (fun hc249 => ?_)
      ·replace h243 := cdT hc249 h243
       refine cw_regF (s_fa rfl Tryd.underlying42 rfl Tryd.sizeOf5 rfl (y_st 0 hI83 rfl rfl rfl rfl Tryd.sizeOf5 rfl rfl (one1 rfl one0) ?_))
       intro w250 hI251 x252
       refine Reg.nil ?_
       obtain rfl := Option.some.inj h243
       refine ⟨rfl, 1, ⟨hI251, x252, (by decide), rfl⟩, sb2 rfl rfl⟩
      replace h243 := cdF hc249 h243
      refine cw_skip ?_
      obtain rfl := Option.some.inj h243
      refine ⟨rfl, 0, ⟨hI83, (Adv.refl _ _), (by decide), rfl⟩, sb2 rfl rfl⟩
     rintro x244 w246 ⟨hI247, hA248, r245, rfl⟩
     obtain rfl := Option.some.inj h232
     refine ⟨rfl, x244, ⟨hI247, hA248, r245, rfl⟩, sb2 rfl rfl⟩
    rintro x233 w235 ⟨hI236, hA237, r234, rfl⟩
    obtain rfl := Option.some.inj h214
    refine ⟨rfl, x233, ⟨hI236, hA237, r234, rfl⟩, sb2 rfl rfl⟩
   rintro x215 w217 ⟨hI218, hA219, r216, rfl⟩
   obtain rfl := Option.some.inj h203
   refine ⟨rfl, x215, ⟨hI218, hA219, r216, rfl⟩, sb2 rfl rfl⟩
  rintro x204 w206 ⟨hI207, hA208, r205, rfl⟩
  obtain rfl := Option.some.inj h196
  refine ⟨rfl, x204, ⟨hI207, hA208, r205, rfl⟩, sb2 rfl rfl⟩
 rintro x197 w199 ⟨hI200, hA201, r198, rfl⟩
 refine cw_seq (cw_regF (s_lda rfl (hI200.row 0 rfl).rd.cells Tryd.isAgg42 rfl Tryd.sizeOf42 rfl (y_st 1 hI200 rfl rfl rfl rfl Tryd.sizeOf42 rfl rfl (one1 rfl (one1 rfl (one1 rfl (one1 (RdS.oneC hf13) (one1 rfl (one1 rfl (one1 rfl (one1 (RdS.oneC hf23) (one1 rfl (one1 rfl (one1 rfl (one1 (RdS.oneC hf33) (one1 rfl (one1 rfl (one1 rfl (one1 (RdS.oneC hf43) (one1 rfl (one1 rfl (one1 rfl (one1 (RdS.oneC hf53) (one1 rfl (one1 rfl (one1 rfl (one1 (RdS.oneC hf63) (on3 rfl rfl rfl))))))))))))))))))))))))) ?_)))
 intro w253 hI254 x255
 refine Reg.nil (cw_ret ?_)
 obtain rfl := Option.some.inj h
 refine fin_any Tryd.results55 (AllRs.cons (RsOk.agg rfl (hI254.row 1 rfl).rd.cells Tryd.isAgg42 rfl Tryd.sizeOf42) (AllRs.nil)) rfl ?_
 exact ⟨_, _, _, _, _, _, rfl, r9, r10, r11, ((hf13.adv ((Adv.of_ext e18).trans ((Adv.of_ext e28).trans ((Adv.of_ext e38).trans ((Adv.of_ext e48).trans ((Adv.of_ext e58).trans (x68.trans (x71.trans (hA84.trans (hA201.trans x255)))))))))).adv hI254.baseH), r19, r20, r21, ((hf23.adv ((Adv.of_ext e28).trans ((Adv.of_ext e38).trans ((Adv.of_ext e48).trans ((Adv.of_ext e58).trans (x68.trans (x71.trans (hA84.trans (hA201.trans x255))))))))).adv hI254.baseH), r29, r30, r31, ((hf33.adv ((Adv.of_ext e38).trans ((Adv.of_ext e48).trans ((Adv.of_ext e58).trans (x68.trans (x71.trans (hA84.trans (hA201.trans x255)))))))).adv hI254.baseH), r39, r40, r41, ((hf43.adv ((Adv.of_ext e48).trans ((Adv.of_ext e58).trans (x68.trans (x71.trans (hA84.trans (hA201.trans x255))))))).adv hI254.baseH), r49, r50, r51, ((hf53.adv ((Adv.of_ext e58).trans (x68.trans (x71.trans (hA84.trans (hA201.trans x255)))))).adv hI254.baseH), r59, r60, r61, ((hf63.adv (x68.trans (x71.trans (hA84.trans (hA201.trans x255))))).adv hI254.baseH), r79, r81, r198, hI254.kp⟩
noncomputable def P.ref03_State (l : (List Report)) (account : Int) (day : Int) (known : Int) : Option (State × Int) :=
  Option.bind (P.ref03_Check l) fun z5 => cond (!decide (z5 = 0)) (some ((State.mk (Told.mk 0 0 0 []) (Told.mk 0 0 0 []) (Told.mk 0 0 0 []) (Told.mk 0 0 0 []) (Told.mk 0 0 0 []) (Told.mk 0 0 0 []) (Span.mk 0 0) 0), z5)) (Option.bind (Option.bind (P.ref03_within account 0 999999) fun z15 => cond (!z15) (some true) (Option.bind (P.ref03_within day 0 100000) fun z21 => cond (!z21) (some true) (Option.bind (P.ref03_within known 0 100000) fun z27 => some (!z27)))) fun x32 => cond x32 (some ((State.mk (Told.mk 0 0 0 []) (Told.mk 0 0 0 []) (Told.mk 0 0 0 []) (Told.mk 0 0 0 []) (Told.mk 0 0 0 []) (Told.mk 0 0 0 []) (Span.mk 0 0) 0), 2)) (Option.bind (P.ref03_Known l known) fun z37 => Option.bind (P.ref03_standing z37) fun z46 => Option.bind (P.ref03_Of z46 account day) fun z55 => Option.bind (P.ref03_Tell z55) fun z64 => some ((State.mk (Told.mk z64.opened.known z64.opened.cents z64.opened.since z64.opened.by_) (Told.mk z64.limit.known z64.limit.cents z64.limit.since z64.limit.by_) (Told.mk z64.owed.known z64.owed.cents z64.owed.since z64.owed.by_) (Told.mk z64.late.known z64.late.cents z64.late.since z64.late.by_) (Told.mk z64.default.known z64.default.cents z64.default.since z64.default.by_) (Told.mk z64.closed.known z64.closed.cents z64.closed.since z64.closed.by_) (Span.mk z64.paid.lo z64.paid.hi) z64.is_), 0)))
theorem C_ref03_State {M : List Nat} {w : World} (hM : MLt M w) {l : (List Report)} {v_l_0 : Value} (f_l_0 : RdS ReportE M w v_l_0 l) {account : Int} (f_account_0 : InK .i64 account) {day : Int} (f_day_0 : InK .i64 day) {known : Int} (f_known_0 : InK .i64 known) {r0 : State} {r1 : Int} (h : P.ref03_State l account day known = some (r0, r1)) :
  Calls Tryd.prog 21 (List.toArray [v_l_0, vi account, vi day, vi known]) w fun e w' => ∃ v0_3 : Value, ∃ v0_7 : Value, ∃ v0_11 : Value, ∃ v0_15 : Value, ∃ v0_19 : Value, ∃ v0_23 : Value, e = .returned (Value.tuple (List.toArray [Value.agg (List.toArray [vu r0.opened.known, vi r0.opened.cents, vi r0.opened.since, v0_3, vu r0.limit.known, vi r0.limit.cents, vi r0.limit.since, v0_7, vu r0.owed.known, vi r0.owed.cents, vi r0.owed.since, v0_11, vu r0.late.known, vi r0.late.cents, vi r0.late.since, v0_15, vu r0.default.known, vi r0.default.cents, vi r0.default.since, v0_19, vu r0.closed.known, vi r0.closed.cents, vi r0.closed.since, v0_23, vi r0.paid.lo, vi r0.paid.hi, vu r0.is_]), vi r1])) ∧ InK .u8 r0.opened.known ∧ InK .i64 r0.opened.cents ∧ InK .i64 r0.opened.since ∧ RdS (intE .i64) M w' v0_3 r0.opened.by_ ∧ InK .u8 r0.limit.known ∧ InK .i64 r0.limit.cents ∧ InK .i64 r0.limit.since ∧ RdS (intE .i64) M w' v0_7 r0.limit.by_ ∧ InK .u8 r0.owed.known ∧ InK .i64 r0.owed.cents ∧ InK .i64 r0.owed.since ∧ RdS (intE .i64) M w' v0_11 r0.owed.by_ ∧ InK .u8 r0.late.known ∧ InK .i64 r0.late.cents ∧ InK .i64 r0.late.since ∧ RdS (intE .i64) M w' v0_15 r0.late.by_ ∧ InK .u8 r0.default.known ∧ InK .i64 r0.default.cents ∧ InK .i64 r0.default.since ∧ RdS (intE .i64) M w' v0_19 r0.default.by_ ∧ InK .u8 r0.closed.known ∧ InK .i64 r0.closed.cents ∧ InK .i64 r0.closed.since ∧ RdS (intE .i64) M w' v0_23 r0.closed.by_ ∧ InK .i64 r0.paid.lo ∧ InK .i64 r0.paid.hi ∧ InK .u8 r0.is_ ∧ InK .i64 r1 ∧ Ext w w' := by
 have hI := Hp.start (Mu := []) hM
 refine calls_cw Tryd.func21 rfl Tryd.ntmps21 rfl ?_
 refine cw_seq (cw_regF (y_al hI Tryd.zeroValue42 rfl rfl ?_))
 intro b1 w2 hI3 x4
 refine s_as rfl rfl (Reg.nil (cw_seq (cw_seq (cw_regF (s_mv rfl rfl ?_)))))
 obtain ⟨z5, hz6, h⟩ := bnd h
 refine s_call rfl Tryd.call18 rfl ((C_ref03_Check hI3.mlt (f_l_0.adv hI3.adv) hz6).mono ?_)
 rintro _ w7 ⟨rfl, r9, e8⟩
 refine ⟨_, rfl, ?_⟩
 have hI10 := hI3.ext e8
 refine s_as rfl rfl (Reg.nil (cw_seq (cw_regF (s_mv rfl rfl (s_neq rfl rfl rfl (Reg.nil (cw_cond rfl (fun hc11 => ?_) (fun hc11 => ?_))))))))
 ·replace h := cdT hc11 h
  refine cw_seq (cw_regF ?_)
  refine s_bd [(0, 4), (4, 4), (8, 4), (12, 4), (16, 4), (20, 4), (24, 2), (26, 1)] Tryd.zeroValue42 rfl Tryd.underlying42 (fun _ => by simp [Tryd.sizeOf38, Tryd.sizeOf40, Tryd.sizeOf5]) rfl (Cls.nil) rfl rfl ?_
  refine s_mv rfl rfl (y_st 0 hI10 rfl rfl rfl rfl Tryd.sizeOf42 rfl rfl (on27 rfl rfl rfl rfl rfl rfl rfl rfl rfl rfl rfl rfl rfl rfl rfl rfl rfl rfl rfl rfl rfl rfl rfl rfl rfl rfl rfl) ?_)
  intro w12 hI13 x14
  refine s_as rfl rfl (Reg.nil (cw_ret ?_))
  obtain ⟨rfl, rfl⟩ := inj2 h
  refine fin_any Tryd.results21 (AllRs.cons (RsOk.agg rfl (hI13.row 0 rfl).rd.cells Tryd.isAgg42 rfl Tryd.sizeOf42) (AllRs.cons (RsOk.tmp rfl) (AllRs.nil))) rfl ?_
  exact ⟨_, _, _, _, _, _, rfl, (by decide), (by decide), (by decide), (RdS.nil _ _ _), (by decide), (by decide), (by decide), (RdS.nil _ _ _), (by decide), (by decide), (by decide), (RdS.nil _ _ _), (by decide), (by decide), (by decide), (RdS.nil _ _ _), (by decide), (by decide), (by decide), (RdS.nil _ _ _), (by decide), (by decide), (by decide), (RdS.nil _ _ _), (by decide), (by decide), (by decide), r9, hI13.kp⟩
 replace h := cdF hc11 h
 refine cw_skip (cw_seq ?_)
 obtain ⟨j15, h16, h⟩ := bnd h
 refine cw_keep [0, 1, 2, 3, 8] rfl (cw_seqD 0 (ι := Bool) (fun x17 => [(29, Value.bool x17)]) (fun x17 => fun w18 => Hp w [] M [rowR 42 b1 zSt] w18 ∧ Adv (mm [rowR 42 b1 zSt] M) (mm [rowR 42 b1 zSt] M) w7 w18 ∧ x17 = j15) ?_ ?_)
 ·refine cw_regF (s_mv rfl rfl ?_)
  obtain ⟨z21, hz22, h16⟩ := bnd h16
  refine s_call rfl Tryd.call39 rfl ?_
  refine (C_ref03_within hI10.mlt f_account_0 (by decide) (by decide) hz22).mono ?_
  rintro _ w23 ⟨rfl, e24⟩
  refine ⟨_, rfl, ?_⟩
  have hI25 := hI10.ext e24
  refine s_not rfl rfl (s_mv rfl rfl (Reg.gsplit (t := 20) rfl (fun hg26 => ?_) (fun hg26 => ?_)))
  ·replace h16 := cdT hg26 h16
   iterate 3 refine Reg.pass rfl rfl rfl rfl ?_
   refine s_pkT rfl rfl rfl (s_mv rfl rfl ?_)
   iterate 3 refine Reg.pass rfl rfl rfl rfl ?_
   refine s_pkT rfl rfl rfl (Reg.nil ?_)
   obtain rfl := Option.some.inj h16
   refine ⟨rfl, true, ⟨hI25, (Adv.of_ext e24), rfl⟩, sb6 rfl rfl rfl rfl rfl rfl⟩
  replace h16 := cdF hg26 h16
  refine Reg.take rfl rfl (s_mv rfl rfl (Reg.take rfl rfl ?_))
  obtain ⟨z27, hz28, h16⟩ := bnd h16
  refine s_call rfl Tryd.call39 rfl ?_
  refine (C_ref03_within hI25.mlt f_day_0 (by decide) (by decide) hz28).mono ?_
  rintro _ w29 ⟨rfl, e30⟩
  refine ⟨_, rfl, ?_⟩
  have hI31 := hI25.ext e30
  refine Reg.take rfl rfl (s_not rfl rfl (s_pkF rfl rfl rfl (s_mv rfl rfl (Reg.gsplit (t := 25) rfl (fun hg32 => ?_) (fun hg32 => ?_)))))
  ·replace h16 := cdT hg32 h16
   iterate 3 refine Reg.pass rfl rfl rfl rfl ?_
   refine s_pkT rfl rfl rfl (Reg.nil ?_)
   obtain rfl := Option.some.inj h16
   refine ⟨rfl, true, ⟨hI31, ((Adv.of_ext e24).trans (Adv.of_ext e30)), rfl⟩, sb6 rfl rfl rfl rfl rfl rfl⟩
  replace h16 := cdF hg32 h16
  refine Reg.take rfl rfl (s_mv rfl rfl (Reg.take rfl rfl ?_))
  obtain ⟨z33, hz34, h16⟩ := bnd h16
  refine s_call rfl Tryd.call39 rfl ?_
  refine (C_ref03_within hI31.mlt f_known_0 (by decide) (by decide) hz34).mono ?_
  rintro _ w35 ⟨rfl, e36⟩
  refine ⟨_, rfl, ?_⟩
  have hI37 := hI31.ext e36
  refine Reg.take rfl rfl (s_not rfl rfl (s_pkF rfl rfl rfl (Reg.nil ?_)))
  obtain rfl := Option.some.inj h16
  refine ⟨rfl, !z33, ⟨hI37, ((Adv.of_ext e24).trans ((Adv.of_ext e30).trans (Adv.of_ext e36))), rfl⟩, sb6 rfl rfl rfl rfl rfl rfl⟩
 rintro x17 w18 ⟨hI19, hA20, rfl⟩
 refine cw_cond rfl (fun hc38 => ?_) (fun hc38 => ?_)
 ·replace h := cdT hc38 h
  refine cw_seq (cw_regF ?_)
  refine s_bd [(0, 4), (4, 4), (8, 4), (12, 4), (16, 4), (20, 4), (24, 2), (26, 1)] Tryd.zeroValue42 rfl Tryd.underlying42 (fun _ => by simp [Tryd.sizeOf38, Tryd.sizeOf40, Tryd.sizeOf5]) rfl (Cls.nil) rfl rfl ?_
  refine y_st 0 hI19 rfl rfl rfl rfl Tryd.sizeOf42 rfl rfl (on27 rfl rfl rfl rfl rfl rfl rfl rfl rfl rfl rfl rfl rfl rfl rfl rfl rfl rfl rfl rfl rfl rfl rfl rfl rfl rfl rfl) ?_
  intro w39 hI40 x41
  refine s_as rfl rfl (Reg.nil (cw_ret ?_))
  obtain ⟨rfl, rfl⟩ := inj2 h
  refine fin_any Tryd.results21 (AllRs.cons (RsOk.agg rfl (hI40.row 0 rfl).rd.cells Tryd.isAgg42 rfl Tryd.sizeOf42) (AllRs.cons (RsOk.tmp rfl) (AllRs.nil))) rfl ?_
  exact ⟨_, _, _, _, _, _, rfl, (by decide), (by decide), (by decide), (RdS.nil _ _ _), (by decide), (by decide), (by decide), (RdS.nil _ _ _), (by decide), (by decide), (by decide), (RdS.nil _ _ _), (by decide), (by decide), (by decide), (RdS.nil _ _ _), (by decide), (by decide), (by decide), (RdS.nil _ _ _), (by decide), (by decide), (by decide), (RdS.nil _ _ _), (by decide), (by decide), (by decide), (by decide), hI40.kp⟩
 replace h := cdF hc38 h
 refine cw_skip (cw_seq (cw_regF (s_mv rfl rfl (s_mv rfl rfl ?_))))
 obtain ⟨z42, hz43, h⟩ := bnd h
 refine s_call rfl Tryd.call41 rfl ((C_ref03_Known hI19.mlt (f_l_0.adv hI19.adv) f_known_0 hz43).mono ?_)
 rintro _ w44 ⟨v46, rfl, hf47, e45⟩
 refine ⟨_, rfl, ?_⟩
 have hI48 := hI19.addOwn e45 hf47
 have hf49 := hI48.freeze 0 rfl
 have hI50 := hI48.erase 0
 obtain ⟨z51, hz52, h⟩ := bnd h
 refine s_call rfl Tryd.call40 rfl ((C_ref03_standing hI50.mlt hf49 hz52).mono ?_)
 rintro _ w53 ⟨v55, rfl, hf56, e54⟩
 refine ⟨_, rfl, ?_⟩
 have hI57 := hI50.addOwn e54 hf56
 refine s_mv rfl rfl (s_mv rfl rfl ?_)
 have hf58 := hI57.freeze 0 rfl
 have hI59 := hI57.erase 0
 obtain ⟨z60, hz61, h⟩ := bnd h
 refine s_call rfl Tryd.call56 rfl ((C_ref03_Of hI59.mlt hf58 f_account_0 f_day_0 hz61).mono ?_)
 rintro _ w62 ⟨v64, rfl, hf65, e63⟩
 refine ⟨_, rfl, ?_⟩
 have hI66 := hI59.addOwn e63 hf65
 have hf67 := hI66.freeze 0 rfl
 have hI68 := hI66.erase 0
 obtain ⟨z69, hz70, h⟩ := bnd h
 refine s_call rfl Tryd.call55 rfl ((C_ref03_Tell hI68.mlt hf67 hz70).mono ?_)
 rintro _ w71 ⟨v76, v81, v86, v91, v96, v101, rfl, r73, r74, r75, hf77, r78, r79, r80, hf82, r83, r84, r85, hf87, r88, r89, r90, hf92, r93, r94, r95, hf97, r98, r99, r100, hf102, r103, r104, r105, e72⟩
 refine ⟨_, rfl, ?_⟩
 have hI106 := hI68.ext e72
 refine y_st 0 hI106 rfl rfl rfl rfl Tryd.sizeOf42 rfl rfl (one1 rfl (one1 rfl (one1 rfl (one1 (RdS.oneC hf77) (one1 rfl (one1 rfl (one1 rfl (one1 (RdS.oneC hf82) (one1 rfl (one1 rfl (one1 rfl (one1 (RdS.oneC hf87) (one1 rfl (one1 rfl (one1 rfl (one1 (RdS.oneC hf92) (one1 rfl (one1 rfl (one1 rfl (one1 (RdS.oneC hf97) (one1 rfl (one1 rfl (one1 rfl (one1 (RdS.oneC hf102) (on3 rfl rfl rfl))))))))))))))))))))))))) ?_
 intro w107 hI108 x109
 refine s_as rfl rfl (Reg.nil (cw_ret ?_))
 obtain ⟨rfl, rfl⟩ := inj2 h
 refine fin_any Tryd.results21 (AllRs.cons (RsOk.agg rfl (hI108.row 0 rfl).rd.cells Tryd.isAgg42 rfl Tryd.sizeOf42) (AllRs.cons (RsOk.tmp rfl) (AllRs.nil))) rfl ?_
 exact ⟨_, _, _, _, _, _, rfl, r73, r74, r75, ((hf77.adv x109).adv hI108.baseH), r78, r79, r80, ((hf82.adv x109).adv hI108.baseH), r83, r84, r85, ((hf87.adv x109).adv hI108.baseH), r88, r89, r90, ((hf92.adv x109).adv hI108.baseH), r93, r94, r95, ((hf97.adv x109).adv hI108.baseH), r98, r99, r100, ((hf102.adv x109).adv hI108.baseH), r103, r104, r105, (by decide), hI108.kp⟩
end Go.Proofs.YtepjkmoipjeghaaDoor
set_option maxRecDepth 20000
set_option maxHeartbeats 4000000
namespace Go.Proofs.YtepjkmoipjeghaaDoor
open Go Go.Sx Go.RowKit
variable [Trk]
noncomputable def P.ref03_Clashes (l : (List Report)) (account : Int) (known : Int) : Option ((List Clash) × Int) :=
  Option.bind (P.ref03_Check l) fun z1 => cond (!decide (z1 = 0)) (some ([], z1)) (Option.bind (Option.bind (P.ref03_within account 0 999999) fun z8 => cond (!z8) (some true) (Option.bind (P.ref03_within known 0 100000) fun z14 => some (!z14))) fun x19 => cond x19 (some ([], 2)) (Option.bind (P.ref03_Known l known) fun z21 => Option.bind (P.ref03_standing z21) fun z30 => Option.bind (P.ref03_Of z30 account 100000) fun z39 => Option.bind (loopM (S := (List Report) × (List Clash) × Int) (R := ((List Clash))) (fun (x46, x47, x48) => cond (decide (x48 ≤ 7)) (Option.bind (Option.bind (cond (decide (x48 = 1)) (some true) (some (decide (6 ≤ x48)))) fun x51 => cond x51 (Option.bind (Option.bind (chk .u8 x48) fun n53 => Option.bind (P.ref03_once x46 n53) fun z54 => Option.bind (cond (decide (z54.known = 1)) (Option.bind (chk .u8 x48) fun n74 => Option.bind (appo 40 x47 ([(Clash.mk n74 z54.since z54.by_)] : List Clash)) fun l81 => some l81) (some x47)) fun x86 => some x86) fun x87 => some x87) (Option.bind (loopM (S := (List Clash) × Int × Int) (R := ((List Clash))) (fun (x88, x89, x90) => cond (decide (x90 < (x46.length : Int))) (Option.bind (Option.bind (Option.bind (ixo x46 x90) fun y92 => Option.bind (chk .i64 y92.kind) fun n106 => cond (!decide (n106 = x48)) (some true) (Option.bind (ixo x46 x90) fun y108 => some (decide (y108.about = x89)))) fun x122 => cond x122 (some (x88, x89)) (Option.bind (ixo x46 x90) fun y124 => Option.bind (loopM (S := (List Int) × Bool × Int) (R := ((List Int) × Bool)) (fun (x138, x139, x140) => cond (decide (x140 < (x46.length : Int))) (Option.bind (Option.bind (Option.bind (ixo x46 x140) fun y142 => Option.bind (ixo x46 x90) fun y156 => cond (decide (y142.kind = y156.kind)) (Option.bind (ixo x46 x140) fun y171 => some (decide (y171.about = y124.about))) (some false)) fun x191 => Option.bind (cond x191 (Option.bind (ixo x46 x140) fun y193 => Option.bind (P.ref03_put x138 y193.id) fun z207 => Option.bind (cond x139 (some true) (Option.bind (ixo x46 x140) fun y218 => Option.bind (ixo x46 x90) fun y232 => some (!decide (y218.cents = y232.cents)))) fun x249 => some (z207, x249)) (some (x138, x139))) fun (x250, x251) => some (x250, x251)) fun (x252, x253) => Option.bind (chk .i64 (x140 + 1)) fun n254 => some (.inl (x252, x253, n254))) (some (.inr (x138, x139)))) ([], false, 0)) fun (x255, x256) => Option.bind (Option.bind (cond (decide (x48 = 4)) (Option.bind (P.ref03_paid x46 y124.about) fun z258 => some (!decide (z258.lo = z258.hi))) (some x256)) fun x274 => some x274) fun x275 => Option.bind (cond x275 (Option.bind (chk .u8 x48) fun n277 => Option.bind (appo 40 x88 ([(Clash.mk n277 y124.about x255)] : List Clash)) fun l286 => some l286) (some x88)) fun x291 => some (x291, y124.about))) fun (x292, x293) => Option.bind (chk .i64 (x90 + 1)) fun n294 => some (.inl (x292, x293, n294))) (some (.inr x88))) (x47, (-1), 0)) fun x295 => some x295)) fun x296 => Option.bind (chk .i64 (x48 + 1)) fun n297 => some (.inl (x46, x296, n297))) (some (.inr x47))) (z39, [], 1)) fun x298 => some (x298, 0)))
theorem C_ref03_Clashes {M : List Nat} {w : World} (hM : MLt M w) {l : (List Report)} {v_l_0 : Value} (f_l_0 : RdS ReportE M w v_l_0 l) {account : Int} (f_account_0 : InK .i64 account) {known : Int} (f_known_0 : InK .i64 known) {r0 : (List Clash)} {r1 : Int} (h : P.ref03_Clashes l account known = some (r0, r1)) :
  Calls Tryd.prog 23 (List.toArray [v_l_0, vi account, vi known]) w fun e w' => ∃ v0_0 : Value, e = .returned (Value.tuple (List.toArray [v0_0, vi r1])) ∧ (Own ClashE 55 0 M w' v0_0 r0 ∧ ∀ b ∈ ob v0_0, w.heap.size ≤ b) ∧ InK .i64 r1 ∧ Ext w w' := by
 have hI := Hp.start (Mu := []) hM
 refine calls_cw Tryd.func23 rfl Tryd.ntmps23 rfl ?_
 refine cw_seq (cw_regF (s_as rfl rfl (s_as rfl rfl (Reg.nil (cw_seq (cw_seq (cw_regF (s_mv rfl rfl ?_))))))))
 obtain ⟨z1, hz2, h⟩ := bnd h
 refine s_call rfl Tryd.call18 rfl ((C_ref03_Check hI.mlt f_l_0 hz2).mono ?_)
 rintro _ w3 ⟨rfl, r5, e4⟩
 refine ⟨_, rfl, ?_⟩
 have hI6 := hI.ext e4
 refine s_as rfl rfl (Reg.nil (cw_seq (cw_regF (s_mv rfl rfl (s_neq rfl rfl rfl (Reg.nil (cw_cond rfl (fun hc7 => ?_) (fun hc7 => ?_))))))))
 ·replace h := cdT hc7 h
  refine cw_seq (cw_regF (s_mv rfl rfl (s_as rfl rfl (s_as rfl rfl (Reg.nil (cw_ret ?_))))))
  obtain ⟨rfl, rfl⟩ := inj2 h
  refine fin2 Tryd.results23 rfl rfl ?_
  exact ⟨_, rfl, ⟨Own.nil _ _ _ _ _, fun _ hb => by cases hb⟩, r5, hI6.kp⟩
 replace h := cdF hc7 h
 refine cw_skip (cw_seq ?_)
 obtain ⟨j8, h9, h⟩ := bnd h
 refine cw_keep [0, 1, 2] rfl (cw_seqD 0 (ι := Bool) (fun x10 => [(31, Value.bool x10)]) (fun x10 => fun w11 => Hp w [] M [] w11 ∧ Adv (mm [] M) (mm [] M) w3 w11 ∧ x10 = j8) ?_ ?_)
 ·refine cw_regF (s_mv rfl rfl ?_)
  obtain ⟨z14, hz15, h9⟩ := bnd h9
  refine s_call rfl Tryd.call39 rfl ?_
  refine (C_ref03_within hI6.mlt f_account_0 (by decide) (by decide) hz15).mono ?_
  rintro _ w16 ⟨rfl, e17⟩
  refine ⟨_, rfl, ?_⟩
  have hI18 := hI6.ext e17
  refine s_not rfl rfl (s_mv rfl rfl (Reg.gsplit (t := 27) rfl (fun hg19 => ?_) (fun hg19 => ?_)))
  ·replace h9 := cdT hg19 h9
   iterate 3 refine Reg.pass rfl rfl rfl rfl ?_
   refine s_pkT rfl rfl rfl (Reg.nil ?_)
   obtain rfl := Option.some.inj h9
   refine ⟨rfl, true, ⟨hI18, (Adv.of_ext e17), rfl⟩, sb4 rfl rfl rfl rfl⟩
  replace h9 := cdF hg19 h9
  refine Reg.take rfl rfl (s_mv rfl rfl (Reg.take rfl rfl ?_))
  obtain ⟨z20, hz21, h9⟩ := bnd h9
  refine s_call rfl Tryd.call39 rfl ?_
  refine (C_ref03_within hI18.mlt f_known_0 (by decide) (by decide) hz21).mono ?_
  rintro _ w22 ⟨rfl, e23⟩
  refine ⟨_, rfl, ?_⟩
  have hI24 := hI18.ext e23
  refine Reg.take rfl rfl (s_not rfl rfl (s_pkF rfl rfl rfl (Reg.nil ?_)))
  obtain rfl := Option.some.inj h9
  refine ⟨rfl, !z20, ⟨hI24, ((Adv.of_ext e17).trans (Adv.of_ext e23)), rfl⟩, sb4 rfl rfl rfl rfl⟩
 rintro x10 w11 ⟨hI12, hA13, rfl⟩
 refine cw_cond rfl (fun hc25 => ?_) (fun hc25 => ?_)
 ·replace h := cdT hc25 h
  refine cw_seq (cw_regF (s_as rfl rfl (s_as rfl rfl (Reg.nil (cw_ret ?_)))))
  obtain ⟨rfl, rfl⟩ := inj2 h
  refine fin2 Tryd.results23 rfl rfl ?_
  exact ⟨_, rfl, ⟨Own.nil _ _ _ _ _, fun _ hb => by cases hb⟩, (by decide), hI12.kp⟩
 replace h := cdF hc25 h
 refine cw_skip (cw_seq (cw_regF (s_mv rfl rfl (s_mv rfl rfl ?_))))
 obtain ⟨z26, hz27, h⟩ := bnd h
 refine s_call rfl Tryd.call41 rfl ((C_ref03_Known hI12.mlt (f_l_0.adv hI12.adv) f_known_0 hz27).mono ?_)
 rintro _ w28 ⟨v30, rfl, hf31, e29⟩
 refine ⟨_, rfl, ?_⟩
 have hI32 := hI12.addOwn e29 hf31
 have hf33 := hI32.freeze 0 rfl
 have hI34 := hI32.erase 0
 obtain ⟨z35, hz36, h⟩ := bnd h
 refine s_call rfl Tryd.call40 rfl ((C_ref03_standing hI34.mlt hf33 hz36).mono ?_)
 rintro _ w37 ⟨v39, rfl, hf40, e38⟩
 refine ⟨_, rfl, ?_⟩
 have hI41 := hI34.addOwn e38 hf40
 refine s_mv rfl rfl ?_
 have hf42 := hI41.freeze 0 rfl
 have hI43 := hI41.erase 0
 obtain ⟨z44, hz45, h⟩ := bnd h
 refine s_call rfl Tryd.call56 rfl ?_
 refine (C_ref03_Of hI43.mlt hf42 f_account_0 (by decide) hz45).mono ?_
 rintro _ w46 ⟨v48, rfl, hf49, e47⟩
 refine ⟨_, rfl, ?_⟩
 have hI50 := hI43.addOwn e47 hf49
 refine s_as rfl rfl (Reg.nil (cw_seq (cw_regF (s_as rfl rfl (Reg.nil (cw_seq (cw_seq (cw_regF (s_as rfl rfl (Reg.nil ?_))))))))))
 obtain ⟨j51, h52, h⟩ := bnd h
 refine cw_keep [9, 10, 11] rfl (cw_unitD 3 (ι := (List Clash) × Value) (fun ⟨x53, v54⟩ => [(10, v54)]) (fun ⟨x53, v54⟩ => fun w55 => Hp w [] M [ownR [] ClashE 55 v54 x53] w55 ∧ Adv (mm [ownR [] ReportE 61 v48 z44] M) (mm [ownR [] ClashE 55 v54 x53] M) w46 w55 ∧ x53 = j51) ?_ ?_)
 ·refine cw_block (cw_keep [9, 10, 11] rfl ?_)
  have hf68 := hI50.freeze 0 rfl
  have hI69 := hI50.erase 0
  have hI70 := hI69.addNil ClashE 55
  refine cw_loopM 3 (ι := (List Report) × (List Clash) × Int × Value × Value) _ (fun ⟨x58, x61, x63, v59, v62⟩ => [(9, v59), (10, v62), (11, vi x63)]) (fun ⟨x58, x61, x63, v59, v62⟩ => (x58, x61, x63)) (fun ⟨x58, x61, x63, v59, v62⟩ => fun w65 => Hp w [] M [ownR [] ClashE 55 v62 x61] w65 ∧ Adv (mm [ownR [] ReportE 61 v48 z44] M) (mm [ownR [] ClashE 55 v62 x61] M) w46 w65 ∧ RdS ReportE (mm [ownR [] ClashE 55 v62 x61] M) w65 v59 x58 ∧ InK .i64 x63) (z44, ([] : List Clash), 1, v48, (vn)) h52 ⟨hI70, ((hI50.eraseH 0).trans (hI69.addNilH ClashE 55)), (hf68.adv (hI69.addNilH ClashE 55)), (by decide)⟩ (sb3 rfl rfl rfl) ?_
  rintro ⟨x58, x61, x63, v59, v62⟩ w65 ⟨hI66, hA67, hf60, r64⟩ y71 h72 hR73
  refine cw_seq (cw_seq (cw_regF (s_mv rfl rfl (s_leq rfl rfl rfl (Reg.nil (cw_cond rfl (fun hc74 => ?_) (fun hc74 => ?_)))))))
  ·replace h72 := cdT hc74 h72
   refine cw_skip ?_
   obtain ⟨j75, h76, h72⟩ := bnd h72
   refine cw_keep [10, 9, 11] rfl (cw_seqD 1 (ι := (List Clash) × Value) (fun ⟨x77, v78⟩ => [(10, v78)]) (fun ⟨x77, v78⟩ => fun w79 => Hp w [] M [ownR [] ClashE 55 v78 x77] w79 ∧ Adv (mm [ownR [] ClashE 55 v62 x61] M) (mm [ownR [] ClashE 55 v78 x77] M) w65 w79 ∧ x77 = j75) ?_ ?_)
   ·refine cw_block (cw_seq ?_)
    obtain ⟨j82, h83, h76⟩ := bnd h76
    refine cw_keep [9, 10, 11] rfl (cw_seqD 0 (ι := Bool) (fun x84 => [(47, Value.bool x84)]) (fun x84 => fun w85 => w65 = w85 ∧ x84 = j82) ?_ ?_)
    ·refine cw_regF (s_mv rfl rfl (s_eql rfl rfl rfl (s_mv rfl rfl (Reg.gsplit (t := 44) rfl (fun hg88 => ?_) (fun hg88 => ?_)))))
     ·replace h83 := cdT hg88 h83
      refine Reg.pass rfl rfl rfl rfl (Reg.pass rfl rfl rfl rfl (s_pkT rfl rfl rfl (Reg.nil ?_)))
      obtain rfl := Option.some.inj h83
      refine ⟨rfl, true, ⟨rfl, rfl⟩, sb4 rfl rfl rfl rfl⟩
     replace h83 := cdF hg88 h83
     refine Reg.take rfl rfl (s_mv rfl rfl (Reg.take rfl rfl (s_geq rfl rfl rfl (s_pkF rfl rfl rfl (Reg.nil ?_)))))
     obtain rfl := Option.some.inj h83
     refine ⟨rfl, decide (6 ≤ x63), ⟨rfl, rfl⟩, sb4 rfl rfl rfl rfl⟩
    rintro x84 _ ⟨rfl, rfl⟩
    refine cw_cond rfl (fun hc89 => ?_) (fun hc89 => ?_)
    ·replace h76 := cdT hc89 h76
     obtain ⟨j90, h91, h76⟩ := bnd h76
     refine cw_keep [10, 9, 11] rfl (cw_seqD 1 (ι := (List Clash) × Value) (fun ⟨x92, v93⟩ => [(10, v93)]) (fun ⟨x92, v93⟩ => fun w94 => Hp w [] M [ownR [] ClashE 55 v93 x92] w94 ∧ Adv (mm [ownR [] ClashE 55 v62 x61] M) (mm [ownR [] ClashE 55 v93 x92] M) w65 w94 ∧ x92 = j90) ?_ ?_)
     ·refine cw_seq (cw_regF (s_mv rfl rfl (s_mv rfl rfl ?_)))
      obtain ⟨n97, hn97, h91⟩ := bnd h91
      replace hn97 := chk_out hn97
      refine p_cvt rfl Tryd.underlying3 Tryd.underlying5 rfl hn97 ?_
      obtain ⟨z98, hz99, h91⟩ := bnd h91
      refine s_call rfl Tryd.call62 rfl ((C_ref03_once hI66.mlt hf60 hn97.2 hz99).mono ?_)
      rintro _ w100 ⟨v105, rfl, r102, r103, r104, hf106, e101⟩
      refine ⟨_, rfl, ?_⟩
      have hI107 := hI66.ext e101
      refine y_al hI107 Tryd.zeroValue38 rfl rfl ?_
      intro b108 w109 hI110 x111
      refine y_st 0 hI110 rfl rfl rfl rfl Tryd.sizeOf38 rfl rfl (one1 rfl (one1 rfl (one1 rfl (one1 (RdS.oneC hf106) one0)))) ?_
      intro w112 hI113 x114
      have hC116 := hI113.freezeRow 0 rfl
      have hI115 := hI113.erase 0
      refine Reg.nil (cw_seq (cw_regF (s_fa rfl Tryd.underlying38 rfl Tryd.sizeOf5 rfl (s_ld rfl (hC116.cells.at 0 rfl) Tryd.isAgg5 rfl (s_eql rfl rfl rfl (Reg.nil ?_))))))
      obtain ⟨j117, h118, h91⟩ := bnd h91
      refine cw_keep [10, 12, 54, 9, 11] rfl (cw_unitD 3 (ι := (List Clash) × Value) (fun ⟨x119, v120⟩ => [(10, v120)]) (fun ⟨x119, v120⟩ => fun w121 => Hp w [] M [ownR [] ClashE 55 v120 x119] w121 ∧ Adv (mm [ownR [] ClashE 55 v62 x61] M) (mm [ownR [] ClashE 55 v120 x119] M) w112 w121 ∧ x119 = j117) ?_ ?_)
      ·refine cw_cond rfl (fun hc124 => ?_) (fun hc124 => ?_)
       ·replace h118 := cdT hc124 h118
        refine cw_regF (s_mv rfl rfl (s_mv rfl rfl ?_))
        obtain ⟨n125, hn125, h118⟩ := bnd h118
        replace hn125 := chk_out hn125
        refine p_cvt rfl Tryd.underlying3 Tryd.underlying5 rfl hn125 ?_
        refine s_fa rfl Tryd.underlying38 rfl Tryd.sizeOf3 rfl (s_ld rfl (hC116.cells.at 2 rfl) Tryd.isAgg3 rfl (s_fa rfl Tryd.underlying38 rfl Tryd.sizeOf36 rfl (s_ld rfl (hC116.cells.at 3 rfl) Tryd.isAgg36 rfl ?_)))
        refine s_bd [(0, 1), (1, 1), (2, 1)] Tryd.zeroValue55 rfl Tryd.underlying55 (fun _ => by simp [Tryd.sizeOf3, Tryd.sizeOf36, Tryd.sizeOf5]) rfl (Cls.cons rfl (Cls.cons rfl (Cls.cons (RdS.cells1 hf106) (Cls.nil)))) rfl rfl ?_
        refine y_bs (E := ClashE) (xs := [(Clash.mk n125 z98.since z98.by_)]) sl47 hI115 rfl rfl (Cls.cons rfl Cls.nil) (Chs.cons ((ClashE_R (x := (Clash.mk n125 z98.since z98.by_))).2 ⟨_, rfl, hn125.2, r104, (hf106.adv (x111.trans (x114.trans (hI113.eraseH 0))))⟩) Chs.nil) rfl rfl ?_
        intro v126 w127 hI128 x129
        have hf130 := hI128.freeze 0 rfl
        have hI131 := hI128.erase 0
        obtain ⟨l132, hl132, h118⟩ := bnd h118
        obtain ⟨hbl132, el132⟩ := appo_out hl132
        refine y_app 0 sl47 hI131 rfl rfl rfl hf130 hbl132 rfl ?_
        rw [← el132]
        intro v133 w134 hI135 x136
        refine s_as rfl rfl (Reg.nil ?_)
        obtain rfl := Option.some.inj h118
        refine ⟨rfl, (l132, v133), ⟨hI135, (x129.trans ((hI128.eraseH 0).trans x136)), rfl⟩, sb3 rfl rfl rfl⟩
       replace h118 := cdF hc124 h118
       refine cw_skip ?_
       obtain rfl := Option.some.inj h118
       refine ⟨rfl, (x61, v62), ⟨hI115, (Adv.refl _ _), rfl⟩, sb3 rfl rfl rfl⟩
      rintro ⟨x119, v120⟩ w121 ⟨hI122, hA123, rfl⟩
      obtain rfl := Option.some.inj h91
      refine ⟨rfl, (x119, v120), ⟨hI122, ((Adv.of_ext e101).trans (x111.trans (x114.trans ((hI113.eraseH 0).trans hA123)))), rfl⟩, sb3 rfl rfl rfl⟩
     rintro ⟨x92, v93⟩ w94 ⟨hI95, hA96, rfl⟩
     refine cw_exit (exB_same ?_)
     obtain rfl := Option.some.inj h76
     refine ⟨rfl, (x92, v93), ⟨hI95, hA96, rfl⟩, sb3 rfl rfl rfl⟩
    replace h76 := cdF hc89 h76
    refine cw_skip (cw_seq (cw_regF (s_as rfl rfl (Reg.nil (cw_seq (cw_regF (s_as rfl rfl (Reg.nil ?_))))))))
    obtain ⟨j137, h138, h76⟩ := bnd h76
    refine cw_keep [10, 13, 14, 9, 11] rfl (cw_unitD 3 (ι := (List Clash) × Value) (fun ⟨x139, v140⟩ => [(10, v140)]) (fun ⟨x139, v140⟩ => fun w141 => Hp w [] M [ownR [] ClashE 55 v140 x139] w141 ∧ Adv (mm [ownR [] ClashE 55 v62 x61] M) (mm [ownR [] ClashE 55 v140 x139] M) w65 w141 ∧ x139 = j137) ?_ ?_)
    ·refine cw_block (cw_keep [10, 13, 14, 9, 11] rfl ?_)
     refine cw_loopM 3 (ι := (List Clash) × Int × Int × Value) _ (fun ⟨x144, x146, x148, v145⟩ => [(10, v145), (13, vi x146), (14, vi x148)]) (fun ⟨x144, x146, x148, v145⟩ => (x144, x146, x148)) (fun ⟨x144, x146, x148, v145⟩ => fun w150 => Hp w [] M [ownR [] ClashE 55 v145 x144] w150 ∧ Adv (mm [ownR [] ClashE 55 v62 x61] M) (mm [ownR [] ClashE 55 v145 x144] M) w65 w150 ∧ InK .i64 x146 ∧ InK .i64 x148) (x61, (-1), 0, v62) h138 ⟨hI66, (Adv.refl _ _), (by decide), (by decide)⟩ (sb5 rfl rfl rfl rfl rfl) ?_
     rintro ⟨x144, x146, x148, v145⟩ w150 ⟨hI151, hA152, r147, r149⟩ y153 h154 hR155
     refine cw_seq (cw_seq (cw_regF (s_mv rfl rfl (s_mv rfl rfl (s_len rfl (hf60.adv hA152) Tryd.underlying22 rfl (s_lss rfl rfl rfl (Reg.nil (cw_cond rfl (fun hc156 => ?_) (fun hc156 => ?_)))))))))
     ·replace h154 := cdT hc156 h154
      refine cw_skip ?_
      obtain ⟨j157, h158, h154⟩ := bnd h154
      refine cw_keep [10, 13, 9, 11, 14] rfl (cw_seqD 2 (ι := (List Clash) × Int × Value) (fun ⟨x159, x161, v160⟩ => [(10, v160), (13, vi x161)]) (fun ⟨x159, x161, v160⟩ => fun w163 => Hp w [] M [ownR [] ClashE 55 v160 x159] w163 ∧ Adv (mm [ownR [] ClashE 55 v145 x144] M) (mm [ownR [] ClashE 55 v160 x159] M) w150 w163 ∧ InK .i64 x161 ∧ (x159, x161) = j157) ?_ ?_)
      ·refine cw_block (cw_seq ?_)
       obtain ⟨j166, h167, h158⟩ := bnd h158
       refine cw_keep [9, 10, 11, 13, 14] rfl (cw_seqD 0 (ι := Bool) (fun x168 => [(87, Value.bool x168)]) (fun x168 => fun w169 => w150 = w169 ∧ x168 = j166) ?_ ?_)
       ·refine cw_regF (s_mv rfl rfl (s_mv rfl rfl ?_))
        obtain ⟨y172, hy172, h167⟩ := bnd h167
        refine p_ia rfl rfl (hf60.adv hA152) hy172 Tryd.underlying22 Tryd.sizeOf61 rfl ?_
        intro b173 o174 cs175 hR176 hC177
        obtain ⟨rfl, r178, r179, r180, r181, r182, r183, r184, r185⟩ := ReportE_R.1 hR176
        refine s_fa rfl Tryd.underlying61 rfl Tryd.sizeOf5 rfl (s_ld rfl (hC177.cells.at 5 rfl) Tryd.isAgg5 rfl ?_)
        obtain ⟨n186, hn186, h167⟩ := bnd h167
        replace hn186 := chk_out hn186
        refine p_cvt rfl Tryd.underlying5 Tryd.underlying3 rfl hn186 ?_
        refine s_mv rfl rfl (s_neq rfl rfl rfl (s_mv rfl rfl (Reg.gsplit (t := 79) rfl (fun hg187 => ?_) (fun hg187 => ?_))))
        ·replace h167 := cdT hg187 h167
         iterate 7 refine Reg.pass rfl rfl rfl rfl ?_
         refine s_pkT rfl rfl rfl (Reg.nil ?_)
         obtain rfl := Option.some.inj h167
         refine ⟨rfl, true, ⟨rfl, rfl⟩, sb6 rfl rfl rfl rfl rfl rfl⟩
        replace h167 := cdF hg187 h167
        refine Reg.take rfl rfl (s_mv rfl rfl (Reg.take rfl rfl (s_mv rfl rfl (Reg.take rfl rfl ?_))))
        obtain ⟨y188, hy188, h167⟩ := bnd h167
        refine p_ia rfl rfl (hf60.adv hA152) hy188 Tryd.underlying22 Tryd.sizeOf61 rfl ?_
        intro b189 o190 cs191 hR192 hC193
        obtain ⟨rfl, r194, r195, r196, r197, r198, r199, r200, r201⟩ := ReportE_R.1 hR192
        refine Reg.take rfl rfl (s_fa rfl Tryd.underlying61 rfl Tryd.sizeOf3 rfl (Reg.take rfl rfl (s_ld rfl (hC193.cells.at 4 rfl) Tryd.isAgg3 rfl (Reg.take rfl rfl (s_mv rfl rfl (Reg.take rfl rfl (s_eql rfl rfl rfl (s_pkF rfl rfl rfl (Reg.nil ?_)))))))))
        obtain rfl := Option.some.inj h167
        refine ⟨rfl, decide (y188.about = x146), ⟨rfl, rfl⟩, sb6 rfl rfl rfl rfl rfl rfl⟩
       rintro x168 _ ⟨rfl, rfl⟩
       refine cw_cond rfl (fun hc202 => ?_) (fun hc202 => ?_)
       ·replace h158 := cdT hc202 h158
        refine cw_exit (exB_same ?_)
        obtain rfl := Option.some.inj h158
        refine ⟨rfl, (x144, x146, v145), ⟨hI151, (Adv.refl _ _), r147, rfl⟩, sb5 rfl rfl rfl rfl rfl⟩
       replace h158 := cdF hc202 h158
       refine cw_skip (cw_seq (cw_regF (s_mv rfl rfl (s_mv rfl rfl ?_))))
       obtain ⟨y203, hy203, h158⟩ := bnd h158
       refine p_ia rfl rfl (hf60.adv hA152) hy203 Tryd.underlying22 Tryd.sizeOf61 rfl ?_
       intro b204 o205 cs206 hR207 hC208
       obtain ⟨rfl, r209, r210, r211, r212, r213, r214, r215, r216⟩ := ReportE_R.1 hR207
       refine s_fa rfl Tryd.underlying61 rfl Tryd.sizeOf3 rfl (s_ld rfl (hC208.cells.at 4 rfl) Tryd.isAgg3 rfl (s_as rfl rfl (Reg.nil (cw_seq (cw_regF (s_as rfl rfl (Reg.nil (cw_seq (cw_regF (s_as rfl rfl (Reg.nil ?_)))))))))))
       refine cw_seq (cw_seq (cw_regF (s_as rfl rfl (Reg.nil ?_))))
       obtain ⟨j217, h218, h158⟩ := bnd h158
       refine cw_keep [15, 16, 17, 9, 10, 11, 13, 14] rfl (cw_unitD 3 (ι := (List Int) × Bool × Value) (fun ⟨x219, x221, v220⟩ => [(15, v220), (16, Value.bool x221)]) (fun ⟨x219, x221, v220⟩ => fun w222 => Hp w [] M [ownR [] (intE .i64) 3 v220 x219, ownR [] ClashE 55 v145 x144] w222 ∧ Adv (mm [ownR [] ClashE 55 v145 x144] M) (mm [ownR [] (intE .i64) 3 v220 x219, ownR [] ClashE 55 v145 x144] M) w150 w222 ∧ (x219, x221) = j217) ?_ ?_)
       ·refine cw_block (cw_keep [15, 16, 17, 9, 10, 11, 13, 14] rfl ?_)
        have hI233 := hI151.addNil (intE .i64) 3
        refine cw_loopM 3 (ι := (List Int) × Bool × Int × Value) _ (fun ⟨x225, x227, x228, v226⟩ => [(15, v226), (16, Value.bool x227), (17, vi x228)]) (fun ⟨x225, x227, x228, v226⟩ => (x225, x227, x228)) (fun ⟨x225, x227, x228, v226⟩ => fun w230 => Hp w [] M [ownR [] (intE .i64) 3 v226 x225, ownR [] ClashE 55 v145 x144] w230 ∧ Adv (mm [ownR [] ClashE 55 v145 x144] M) (mm [ownR [] (intE .i64) 3 v226 x225, ownR [] ClashE 55 v145 x144] M) w150 w230 ∧ InK .i64 x228) (([] : List Int), false, 0, (vn)) h218 ⟨hI233, (hI151.addNilH (intE .i64) 3), (by decide)⟩ (sb8 rfl rfl rfl rfl rfl rfl rfl rfl) ?_
        rintro ⟨x225, x227, x228, v226⟩ w230 ⟨hI231, hA232, r229⟩ y234 h235 hR236
        refine cw_seq (cw_seq (cw_regF (s_mv rfl rfl (s_mv rfl rfl (s_len rfl (hf60.adv (hA152.trans hA232)) Tryd.underlying22 rfl (s_lss rfl rfl rfl (Reg.nil (cw_cond rfl (fun hc237 => ?_) (fun hc237 => ?_)))))))))
        ·replace h235 := cdT hc237 h235
         refine cw_skip ?_
         obtain ⟨j238, h239, h235⟩ := bnd h235
         refine cw_keep [15, 16, 9, 10, 11, 13, 14, 17] rfl (cw_seqD 2 (ι := (List Int) × Bool × Value) (fun ⟨x240, x242, v241⟩ => [(15, v241), (16, Value.bool x242)]) (fun ⟨x240, x242, v241⟩ => fun w243 => Hp w [] M [ownR [] (intE .i64) 3 v241 x240, ownR [] ClashE 55 v145 x144] w243 ∧ Adv (mm [ownR [] (intE .i64) 3 v226 x225, ownR [] ClashE 55 v145 x144] M) (mm [ownR [] (intE .i64) 3 v241 x240, ownR [] ClashE 55 v145 x144] M) w230 w243 ∧ (x240, x242) = j238) ?_ ?_)
         ·refine cw_block ?_
          obtain ⟨j246, h247, h239⟩ := bnd h239
          refine cw_keep [9, 10, 11, 13, 14, 15, 16, 17] rfl (cw_seqD 0 (ι := Bool) (fun x248 => [(118, Value.bool x248)]) (fun x248 => fun w249 => Hp w [] M [ownR [] (intE .i64) 3 v226 x225, ownR [] ClashE 55 v145 x144] w249 ∧ Adv (mm [ownR [] (intE .i64) 3 v226 x225, ownR [] ClashE 55 v145 x144] M) (mm [ownR [] (intE .i64) 3 v226 x225, ownR [] ClashE 55 v145 x144] M) w230 w249 ∧ x248 = j246) ?_ ?_)
          ·refine cw_regT fol (by kernel_rfl) ?_
           refine s_mv rfl rfl (s_mv rfl rfl ?_)
           obtain ⟨y252, hy252, h247⟩ := bnd h247
           refine p_ia rfl rfl (hf60.adv (hA152.trans hA232)) hy252 Tryd.underlying22 Tryd.sizeOf61 rfl ?_
           intro b253 o254 cs255 hR256 hC257
           obtain ⟨rfl, r258, r259, r260, r261, r262, r263, r264, r265⟩ := ReportE_R.1 hR256
           refine s_fa rfl Tryd.underlying61 rfl Tryd.sizeOf5 rfl (s_ld rfl (hC257.cells.at 5 rfl) Tryd.isAgg5 rfl (s_mv rfl rfl (s_mv rfl rfl ?_)))
           obtain ⟨y266, hy266, h247⟩ := bnd h247
           refine p_ia rfl rfl (hf60.adv (hA152.trans hA232)) hy266 Tryd.underlying22 Tryd.sizeOf61 rfl ?_
           intro b267 o268 cs269 hR270 hC271
           obtain ⟨rfl, r272, r273, r274, r275, r276, r277, r278, r279⟩ := ReportE_R.1 hR270
           refine s_fa rfl Tryd.underlying61 rfl Tryd.sizeOf5 rfl (s_ld rfl (hC271.cells.at 5 rfl) Tryd.isAgg5 rfl (s_eql rfl rfl rfl (s_mv rfl rfl (Reg.gsplit (t := 110) rfl (fun hg280 => ?_) (fun hg280 => ?_)))))
           ·replace h247 := cdT hg280 h247
            refine Reg.take rfl rfl (s_mv rfl rfl (Reg.take rfl rfl (s_mv rfl rfl (Reg.take rfl rfl ?_))))
            obtain ⟨y281, hy281, h247⟩ := bnd h247
            refine p_ia rfl rfl (hf60.adv (hA152.trans hA232)) hy281 Tryd.underlying22 Tryd.sizeOf61 rfl ?_
            intro b282 o283 cs284 hR285 hC286
            obtain ⟨rfl, r287, r288, r289, r290, r291, r292, r293, r294⟩ := ReportE_R.1 hR285
            refine Reg.take rfl rfl (s_fa rfl Tryd.underlying61 rfl Tryd.sizeOf3 rfl (Reg.take rfl rfl (s_ld rfl (hC286.cells.at 4 rfl) Tryd.isAgg3 rfl (Reg.take rfl rfl (s_mv rfl rfl (Reg.take rfl rfl (s_eql rfl rfl rfl (s_pkT rfl rfl rfl (Reg.nilq (fun w295 e296 => ?_))))))))))
            have hI297 := hI231.ext e296
            obtain rfl := Option.some.inj h247
            refine ⟨rfl, decide (y281.about = y203.about), ⟨hI297, (Adv.of_ext e296), rfl⟩, sb9 rfl rfl rfl rfl rfl rfl rfl rfl rfl⟩
           replace h247 := cdF hg280 h247
           iterate 7 refine Reg.pass rfl rfl rfl rfl ?_
           refine s_pkF rfl rfl rfl (Reg.nilq (fun w298 e299 => ?_))
           have hI300 := hI231.ext e299
           obtain rfl := Option.some.inj h247
           refine ⟨rfl, false, ⟨hI300, (Adv.of_ext e299), rfl⟩, sb9 rfl rfl rfl rfl rfl rfl rfl rfl rfl⟩
          rintro x248 w249 ⟨hI250, hA251, rfl⟩
          obtain ⟨j301, h302, h239⟩ := bnd h239
          refine cw_keep [15, 16, 118, 9, 10, 11, 13, 14, 17] rfl (cw_unitD 3 (ι := (List Int) × Bool × Value) (fun ⟨x303, x305, v304⟩ => [(15, v304), (16, Value.bool x305)]) (fun ⟨x303, x305, v304⟩ => fun w306 => Hp w [] M [ownR [] (intE .i64) 3 v304 x303, ownR [] ClashE 55 v145 x144] w306 ∧ Adv (mm [ownR [] (intE .i64) 3 v226 x225, ownR [] ClashE 55 v145 x144] M) (mm [ownR [] (intE .i64) 3 v304 x303, ownR [] ClashE 55 v145 x144] M) w249 w306 ∧ (x303, x305) = j301) ?_ ?_)
          ·refine cw_cond rfl (fun hc309 => ?_) (fun hc309 => ?_)
           ·replace h302 := cdT hc309 h302
            refine cw_seq (cw_regF ?_)
            iterate 3 refine s_mv rfl rfl ?_
            obtain ⟨y310, hy310, h302⟩ := bnd h302
            refine p_ia rfl rfl (hf60.adv (hA152.trans (hA232.trans hA251))) hy310 Tryd.underlying22 Tryd.sizeOf61 rfl ?_
            intro b311 o312 cs313 hR314 hC315
            obtain ⟨rfl, r316, r317, r318, r319, r320, r321, r322, r323⟩ := ReportE_R.1 hR314
            refine s_fa rfl Tryd.underlying61 rfl Tryd.sizeOf3 rfl (s_ld rfl (hC315.cells.at 0 rfl) Tryd.isAgg3 rfl ?_)
            obtain ⟨z324, hz325, h302⟩ := bnd h302
            refine s_call rfl Tryd.call63 rfl ((C_ref03_put (hI250.erase 0).mlt (hI250.apart 0 rfl) (hI250.lendOwn 0 rfl) r316 hz325).mono ?_)
            rintro _ w326 ⟨v328, rfl, hf329⟩
            refine ⟨_, rfl, ?_⟩
            have hI330 := hI250.took 0 rfl hf329
            refine s_as rfl rfl (Reg.nil ?_)
            obtain ⟨j331, h332, h302⟩ := bnd h302
            refine cw_keep [16, 9, 10, 11, 13, 14, 15, 17] rfl (cw_unitD 1 (ι := Bool) (fun x333 => [(16, Value.bool x333)]) (fun x333 => fun w334 => Hp w [] M [ownR [] (intE .i64) 3 v328 z324, ownR [] ClashE 55 v145 x144] w334 ∧ Adv (mm [ownR [] (intE .i64) 3 v328 z324, ownR [] ClashE 55 v145 x144] M) (mm [ownR [] (intE .i64) 3 v328 z324, ownR [] ClashE 55 v145 x144] M) w326 w334 ∧ x333 = j331) ?_ ?_)
            ·refine cw_regT fol (by kernel_rfl) ?_
             refine s_mv rfl rfl (s_mv rfl rfl (Reg.gsplit (t := 127) rfl (fun hg337 => ?_) (fun hg337 => ?_)))
             ·replace h332 := cdT hg337 h332
              iterate 11 refine Reg.pass rfl rfl rfl rfl ?_
              refine s_pkT rfl rfl rfl (s_as rfl rfl (Reg.nilq (fun w338 e339 => ?_)))
              have hI340 := hI330.ext e339
              obtain rfl := Option.some.inj h332
              refine ⟨rfl, true, ⟨hI340, (Adv.of_ext e339), rfl⟩, sb8 rfl rfl rfl rfl rfl rfl rfl rfl⟩
             replace h332 := cdF hg337 h332
             refine Reg.take rfl rfl (s_mv rfl rfl (Reg.take rfl rfl (s_mv rfl rfl (Reg.take rfl rfl ?_))))
             obtain ⟨y341, hy341, h332⟩ := bnd h332
             refine p_ia rfl rfl (hf60.adv (hA152.trans (hA232.trans (hA251.trans (hI250.tookA 0 rfl hf329))))) hy341 Tryd.underlying22 Tryd.sizeOf61 rfl ?_
             intro b342 o343 cs344 hR345 hC346
             obtain ⟨rfl, r347, r348, r349, r350, r351, r352, r353, r354⟩ := ReportE_R.1 hR345
             refine Reg.take rfl rfl (s_fa rfl Tryd.underlying61 rfl Tryd.sizeOf3 rfl (Reg.take rfl rfl (s_ld rfl (hC346.cells.at 6 rfl) Tryd.isAgg3 rfl (Reg.take rfl rfl (s_mv rfl rfl (Reg.take rfl rfl (s_mv rfl rfl (Reg.take rfl rfl ?_))))))))
             obtain ⟨y355, hy355, h332⟩ := bnd h332
             refine p_ia rfl rfl (hf60.adv (hA152.trans (hA232.trans (hA251.trans (hI250.tookA 0 rfl hf329))))) hy355 Tryd.underlying22 Tryd.sizeOf61 rfl ?_
             intro b356 o357 cs358 hR359 hC360
             obtain ⟨rfl, r361, r362, r363, r364, r365, r366, r367, r368⟩ := ReportE_R.1 hR359
             refine Reg.take rfl rfl (s_fa rfl Tryd.underlying61 rfl Tryd.sizeOf3 rfl (Reg.take rfl rfl (s_ld rfl (hC360.cells.at 6 rfl) Tryd.isAgg3 rfl (Reg.take rfl rfl (s_neq rfl rfl rfl (s_pkF rfl rfl rfl (s_as rfl rfl (Reg.nilq (fun w369 e370 => ?_)))))))))
             have hI371 := hI330.ext e370
             obtain rfl := Option.some.inj h332
             refine ⟨rfl, !decide (y341.cents = y355.cents), ⟨hI371, (Adv.of_ext e370), rfl⟩, sb8 rfl rfl rfl rfl rfl rfl rfl rfl⟩
            rintro x333 w334 ⟨hI335, hA336, rfl⟩
            obtain rfl := Option.some.inj h302
            refine ⟨rfl, (z324, x333, v328), ⟨hI335, ((hI250.tookA 0 rfl hf329).trans hA336), rfl⟩, sb8 rfl rfl rfl rfl rfl rfl rfl rfl⟩
           replace h302 := cdF hc309 h302
           refine cw_skip ?_
           obtain rfl := Option.some.inj h302
           refine ⟨rfl, (x225, x227, v226), ⟨hI250, (Adv.refl _ _), rfl⟩, sb8 rfl rfl rfl rfl rfl rfl rfl rfl⟩
          rintro ⟨x303, x305, v304⟩ w306 ⟨hI307, hA308, rfl⟩
          obtain rfl := Option.some.inj h239
          refine ⟨rfl, (x303, x305, v304), ⟨hI307, (hA251.trans hA308), rfl⟩, sb8 rfl rfl rfl rfl rfl rfl rfl rfl⟩
         rintro ⟨x240, x242, v241⟩ w243 ⟨hI244, hA245, rfl⟩
         refine cw_regF (s_mv rfl rfl ?_)
         obtain ⟨n372, hn372, h235⟩ := bnd h235
         replace hn372 := chk_out hn372
         refine p_add rfl rfl rfl hn372 (s_as rfl rfl (Reg.nil ?_))
         obtain rfl := Option.some.inj h235
         refine ⟨rfl, (x240, x242, n372, v241), ⟨⟨hI244, (hA232.trans hA245), hn372.2⟩, rfl⟩, sb8 rfl rfl rfl rfl rfl rfl rfl rfl⟩
        replace h235 := cdF hc237 h235
        refine cw_exit (exB_same ?_)
        obtain rfl := Option.some.inj h235
        obtain rfl := hR236 _ rfl
        refine ⟨rfl, (x225, x227, v226), ⟨hI231, hA232, rfl⟩, sb7 rfl rfl rfl rfl rfl rfl rfl⟩
       rintro ⟨x219, x221, v220⟩ w222 ⟨hI223, hA224, rfl⟩
       obtain ⟨j373, h374, h158⟩ := bnd h158
       refine cw_keep [16, 9, 10, 11, 13, 14, 15] rfl (cw_seqD 1 (ι := Bool) (fun x375 => [(16, Value.bool x375)]) (fun x375 => fun w376 => Hp w [] M [ownR [] (intE .i64) 3 v220 x219, ownR [] ClashE 55 v145 x144] w376 ∧ Adv (mm [ownR [] (intE .i64) 3 v220 x219, ownR [] ClashE 55 v145 x144] M) (mm [ownR [] (intE .i64) 3 v220 x219, ownR [] ClashE 55 v145 x144] M) w222 w376 ∧ x375 = j373) ?_ ?_)
       ·refine cw_seq (cw_regF (s_mv rfl rfl (s_eql rfl rfl rfl (Reg.nil ?_))))
        obtain ⟨j379, h380, h374⟩ := bnd h374
        refine cw_keep [16, 141, 9, 10, 11, 13, 14, 15] rfl (cw_unitD 2 (ι := Bool) (fun x381 => [(16, Value.bool x381)]) (fun x381 => fun w382 => Hp w [] M [ownR [] (intE .i64) 3 v220 x219, ownR [] ClashE 55 v145 x144] w382 ∧ Adv (mm [ownR [] (intE .i64) 3 v220 x219, ownR [] ClashE 55 v145 x144] M) (mm [ownR [] (intE .i64) 3 v220 x219, ownR [] ClashE 55 v145 x144] M) w222 w382 ∧ x381 = j379) ?_ ?_)
        ·refine cw_cond rfl (fun hc385 => ?_) (fun hc385 => ?_)
         ·replace h380 := cdT hc385 h380
          refine cw_seq (cw_regF (s_mv rfl rfl (s_mv rfl rfl ?_)))
          obtain ⟨z386, hz387, h380⟩ := bnd h380
          refine s_call rfl Tryd.call64 rfl ((C_ref03_paid hI223.mlt (hf60.adv (hA152.trans hA224)) r213 hz387).mono ?_)
          rintro _ w388 ⟨rfl, r390, r391, e389⟩
          refine ⟨_, rfl, ?_⟩
          have hI392 := hI223.ext e389
          refine y_al hI392 Tryd.zeroValue40 rfl rfl ?_
          intro b393 w394 hI395 x396
          refine y_st 0 hI395 rfl rfl rfl rfl Tryd.sizeOf40 rfl rfl (on2 rfl rfl) ?_
          intro w397 hI398 x399
          have hC401 := hI398.freezeRow 0 rfl
          have hI400 := hI398.erase 0
          refine Reg.nil (cw_regF (s_fa rfl Tryd.underlying40 rfl Tryd.sizeOf3 rfl (s_ld rfl (hC401.cells.at 0 rfl) Tryd.isAgg3 rfl (s_fa rfl Tryd.underlying40 rfl Tryd.sizeOf3 rfl (s_ld rfl (hC401.cells.at 1 rfl) Tryd.isAgg3 rfl (s_neq rfl rfl rfl (s_as rfl rfl (Reg.nil ?_))))))))
          obtain rfl := Option.some.inj h380
          refine ⟨rfl, !decide (z386.lo = z386.hi), ⟨hI400, ((Adv.of_ext e389).trans (x396.trans (x399.trans (hI398.eraseH 0)))), rfl⟩, sb7 rfl rfl rfl rfl rfl rfl rfl⟩
         replace h380 := cdF hc385 h380
         refine cw_skip ?_
         obtain rfl := Option.some.inj h380
         refine ⟨rfl, x221, ⟨hI223, (Adv.refl _ _), rfl⟩, sb7 rfl rfl rfl rfl rfl rfl rfl⟩
        rintro x381 w382 ⟨hI383, hA384, rfl⟩
        obtain rfl := Option.some.inj h374
        refine ⟨rfl, x381, ⟨hI383, hA384, rfl⟩, sb7 rfl rfl rfl rfl rfl rfl rfl⟩
       rintro x375 w376 ⟨hI377, hA378, rfl⟩
       refine cw_seq (cw_regF (s_mv rfl rfl (Reg.nil ?_)))
       obtain ⟨j402, h403, h158⟩ := bnd h158
       refine cw_keep [10, 15, 150, 9, 11, 13, 14] rfl (cw_unitD 3 (ι := (List Clash) × Value) (fun ⟨x404, v405⟩ => [(10, v405)]) (fun ⟨x404, v405⟩ => fun w406 => Hp w [] M [ownR [] ClashE 55 v405 x404] w406 ∧ Adv (mm [ownR [] (intE .i64) 3 v220 x219, ownR [] ClashE 55 v145 x144] M) (mm [ownR [] ClashE 55 v405 x404] M) w376 w406 ∧ x404 = j402) ?_ ?_)
       ·refine cw_cond rfl (fun hc409 => ?_) (fun hc409 => ?_)
        ·replace h403 := cdT hc409 h403
         refine cw_regF (s_mv rfl rfl (s_mv rfl rfl ?_))
         obtain ⟨n410, hn410, h403⟩ := bnd h403
         replace hn410 := chk_out hn410
         refine p_cvt rfl Tryd.underlying3 Tryd.underlying5 rfl hn410 ?_
         refine s_mv rfl rfl (s_mv rfl rfl ?_)
         refine s_bd [(0, 1), (1, 1), (2, 1)] Tryd.zeroValue55 rfl Tryd.underlying55 (fun _ => by simp [Tryd.sizeOf3, Tryd.sizeOf36, Tryd.sizeOf5]) rfl (Cls.cons rfl (Cls.cons rfl (Cls.cons (Own.cells1 (hI377.ownAt 0 rfl)) (Cls.nil)))) rfl rfl ?_
         have hf411 := hI377.freeze 0 rfl
         have hI412 := hI377.erase 0
         refine y_bs (E := ClashE) (xs := [(Clash.mk n410 y203.about x219)]) sl47 hI412 rfl rfl (Cls.cons rfl Cls.nil) (Chs.cons ((ClashE_R (x := (Clash.mk n410 y203.about x219))).2 ⟨_, rfl, hn410.2, r213, hf411⟩) Chs.nil) rfl rfl ?_
         intro v413 w414 hI415 x416
         have hf417 := hI415.freeze 0 rfl
         have hI418 := hI415.erase 0
         obtain ⟨l419, hl419, h403⟩ := bnd h403
         obtain ⟨hbl419, el419⟩ := appo_out hl419
         refine y_app 0 sl47 hI418 rfl rfl rfl hf417 hbl419 rfl ?_
         rw [← el419]
         intro v420 w421 hI422 x423
         refine s_as rfl rfl (Reg.nil ?_)
         obtain rfl := Option.some.inj h403
         refine ⟨rfl, (l419, v420), ⟨hI422, ((hI377.eraseH 0).trans (x416.trans ((hI415.eraseH 0).trans x423))), rfl⟩, sb5 rfl rfl rfl rfl rfl⟩
        replace h403 := cdF hc409 h403
        refine cw_skip ?_
        obtain rfl := Option.some.inj h403
        refine ⟨rfl, (x144, v145), ⟨(hI377.sel [1] rfl), (Hp.selA (σ := [ownR [] (intE .i64) 3 v220 x219, ownR [] ClashE 55 v145 x144]) [1]), rfl⟩, sb5 rfl rfl rfl rfl rfl⟩
       rintro ⟨x404, v405⟩ w406 ⟨hI407, hA408, rfl⟩
       obtain rfl := Option.some.inj h158
       refine ⟨rfl, (x404, y203.about, v405), ⟨hI407, (hA224.trans (hA378.trans hA408)), r213, rfl⟩, sb5 rfl rfl rfl rfl rfl⟩
      rintro ⟨x159, x161, v160⟩ w163 ⟨hI164, hA165, r162, rfl⟩
      refine cw_regF (s_mv rfl rfl ?_)
      obtain ⟨n424, hn424, h154⟩ := bnd h154
      replace hn424 := chk_out hn424
      refine p_add rfl rfl rfl hn424 (s_as rfl rfl (Reg.nil ?_))
      obtain rfl := Option.some.inj h154
      refine ⟨rfl, (x159, x161, n424, v160), ⟨⟨hI164, (hA152.trans hA165), r162, hn424.2⟩, rfl⟩, sb5 rfl rfl rfl rfl rfl⟩
     replace h154 := cdF hc156 h154
     refine cw_exit (exB_same ?_)
     obtain rfl := Option.some.inj h154
     obtain rfl := hR155 _ rfl
     refine ⟨rfl, (x144, v145), ⟨hI151, hA152, rfl⟩, sb3 rfl rfl rfl⟩
    rintro ⟨x139, v140⟩ w141 ⟨hI142, hA143, rfl⟩
    obtain rfl := Option.some.inj h76
    refine ⟨rfl, (x139, v140), ⟨hI142, hA143, rfl⟩, sb3 rfl rfl rfl⟩
   rintro ⟨x77, v78⟩ w79 ⟨hI80, hA81, rfl⟩
   refine cw_regF (s_mv rfl rfl ?_)
   obtain ⟨n425, hn425, h72⟩ := bnd h72
   replace hn425 := chk_out hn425
   refine p_add rfl rfl rfl hn425 (s_as rfl rfl (Reg.nil ?_))
   obtain rfl := Option.some.inj h72
   refine ⟨rfl, (x58, x77, n425, v59, v78), ⟨⟨hI80, (hA67.trans hA81), (hf60.adv hA81), hn425.2⟩, rfl⟩, sb3 rfl rfl rfl⟩
  replace h72 := cdF hc74 h72
  refine cw_exit (exB_same ?_)
  obtain rfl := Option.some.inj h72
  obtain rfl := hR73 _ rfl
  refine ⟨rfl, (x61, v62), ⟨hI66, hA67, rfl⟩, sb1 rfl⟩
 rintro ⟨x53, v54⟩ w55 ⟨hI56, hA57, rfl⟩
 refine cw_seq (cw_regF (s_mv rfl rfl (s_as rfl rfl (s_as rfl rfl (Reg.nil (cw_ret ?_))))))
 obtain ⟨rfl, rfl⟩ := inj2 h
 refine fin2 Tryd.results23 rfl rfl ?_
 exact ⟨_, rfl, (hI56.ownOut 0 rfl), (by decide), hI56.kp⟩
end Go.Proofs.YtepjkmoipjeghaaDoor
