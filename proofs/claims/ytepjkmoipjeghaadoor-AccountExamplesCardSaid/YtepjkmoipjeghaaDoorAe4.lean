/-
  Part 4 of the texts that the statement's proof stands on: what memory holds, how code is walked, what the functions reckon. In the order in which they build.
-/
import Derived.Test.YtepjkmoipjeghaaDoorProg
import Derived.Test.YtepjkmoipjeghaaDoorAe3
set_option linter.unusedVariables false
set_option linter.unusedSectionVars false
set_option maxRecDepth 20000
set_option maxHeartbeats 4000000
namespace Go.Proofs.YtepjkmoipjeghaaDoor
open Go Go.Sx Go.RowKit
variable [Trk]
noncomputable def P.account_store_aim (s : Store) (r : Report) : Option (Report × Bool) :=
  Option.bind (some ((s.reports r.of_).getD (Report.mk 0 0 0 0 0 0 0 0))) fun y17 => Option.bind (cond ((s.reports r.of_).isSome) (cond (decide (y17.source = r.source)) (some (decide (y17.account = r.account), y17.id, y17.source, y17.account, y17.made, y17.about, y17.kind, y17.cents, y17.of_)) (some (false, y17.id, y17.source, y17.account, y17.made, y17.about, y17.kind, y17.cents, y17.of_))) (some (false, y17.id, y17.source, y17.account, y17.made, y17.about, y17.kind, y17.cents, y17.of_))) fun (x131, x132, x133, x134, x135, x136, x137, x138, x139) => some ((Report.mk x132 x133 x134 x135 x136 x137 x138 x139), x131)
theorem C_account_store_aim {M : List Nat} {w : World} (hM : MLt M w) {s : Store} {v_s_0 : Value} (f_s_0 : RdF Ky3 ReportE true M w v_s_0 s.reports) {r : Report} (f_r_0 : InK .i64 r.id) (f_r_1 : InK .i64 r.source) (f_r_2 : InK .i64 r.account) (f_r_3 : InK .i64 r.made) (f_r_4 : InK .i64 r.about) (f_r_5 : InK .u8 r.kind) (f_r_6 : InK .i64 r.cents) (f_r_7 : InK .i64 r.of_) {r0 : Report} {r1 : Bool} (h : P.account_store_aim s r = some (r0, r1)) :
  Calls Tryd.prog 42 (List.toArray [Value.agg (List.toArray [v_s_0]), Value.agg (List.toArray (vR r))]) w fun e w' => e = .returned (Value.tuple (List.toArray [Value.agg (List.toArray (vR r0)), Value.bool r1])) ∧ InK .i64 r0.id ∧ InK .i64 r0.source ∧ InK .i64 r0.account ∧ InK .i64 r0.made ∧ InK .i64 r0.about ∧ InK .u8 r0.kind ∧ InK .i64 r0.cents ∧ InK .i64 r0.of_ ∧ Ext w w' := by
 have hI := Hp.start (Mu := []) hM
 refine calls_cw Tryd.func42 rfl Tryd.ntmps42 rfl ?_
 refine cw_seq (cw_regF (y_box hI rfl rfl rfl ?_))
 intro b1 w2 hI3 x4
 have hC6 := hI3.freezeRow 0 rfl
 have hI5 := hI3.erase 0
 refine y_box hI5 rfl rfl rfl ?_
 intro b7 w8 hI9 x10
 have hC12 := hI9.freezeRow 0 rfl
 have hI11 := hI9.erase 0
 refine y_al hI11 Tryd.zeroValue61 rfl rfl ?_
 intro b13 w14 hI15 x16
 refine s_as rfl rfl (Reg.nil (cw_seq (cw_regF (s_fa rfl Tryd.underlying90 rfl Tryd.sizeOf88 rfl (s_ld rfl ((hC6.adv (x10.trans ((hI9.eraseH 0).trans x16))).cells.at 0 rfl) Tryd.isAgg88 rfl (s_fa rfl Tryd.underlying61 rfl Tryd.sizeOf3 rfl (s_ld rfl ((hC12.adv x16).cells.at 7 rfl) Tryd.isAgg3 rfl ?_)))))))
 obtain ⟨y17, hy17, h⟩ := bnd h
 refine s_lkF (a := r.of_) (z0 := (Report.mk 0 0 0 0 0 0 0 0)) (f_s_0.adv hI15.adv) rfl rfl (show InK .i64 r.of_ from f_r_7) Tryd.underlying88 Tryd.zeroValue61 ⟨_, ((ReportE_R (x := (Report.mk 0 0 0 0 0 0 0 0))).2 ⟨rfl, (show InK .i64 0 by decide), (show InK .i64 0 by decide), (show InK .i64 0 by decide), (show InK .i64 0 by decide), (show InK .i64 0 by decide), (show InK .u8 0 by decide), (show InK .i64 0 by decide), (show InK .i64 0 by decide)⟩), .inl ⟨rfl, rfl⟩⟩ rfl ?_
 intro v18 hv19
 rw [Option.some.inj hy17] at hv19
 obtain ⟨cs20, hR21, rfl⟩ := Vl.agg hv19
 obtain ⟨rfl, r22, r23, r24, r25, r26, r27, r28, r29⟩ := ReportE_R.1 hR21
 refine s_mv rfl rfl (s_xt rfl rfl rfl (s_xt rfl rfl rfl (y_al hI15 Tryd.zeroValue61 rfl rfl ?_)))
 intro b30 w31 hI32 x33
 refine y_st 0 hI32 rfl rfl rfl rfl Tryd.sizeOf61 rfl rfl (on8 rfl rfl rfl rfl rfl rfl rfl rfl) ?_
 intro w34 hI35 x36
 have hC38 := hI35.freezeRow 0 rfl
 have hI37 := hI35.erase 0
 refine s_as rfl rfl (Reg.nil ?_)
 obtain ⟨j39, h40, h⟩ := bnd h
 refine cw_keep [3, 6, 7, 4] rfl (cw_seqD 3 (ι := Bool × Int × Int × Int × Int × Int × Int × Int × Int) (fun ⟨x41, x42, x44, x46, x48, x50, x52, x54, x56⟩ => [(5, Value.bool x41)]) (fun ⟨x41, x42, x44, x46, x48, x50, x52, x54, x56⟩ => fun w58 => Hp w [] M [rowR 61 b13 [vi x42, vi x44, vi x46, vi x48, vi x50, vu x52, vi x54, vi x56]] w58 ∧ Adv (mm [rowR 61 b13 zR] M) (mm [rowR 61 b13 [vi x42, vi x44, vi x46, vi x48, vi x50, vu x52, vi x54, vi x56]] M) w34 w58 ∧ InK .i64 x42 ∧ InK .i64 x44 ∧ InK .i64 x46 ∧ InK .i64 x48 ∧ InK .i64 x50 ∧ InK .u8 x52 ∧ InK .i64 x54 ∧ InK .i64 x56 ∧ (x41, x42, x44, x46, x48, x50, x52, x54, x56) = j39) ?_ ?_)
 ·refine cw_regSea [0, 1, 2, 3, 4, 5, 6, 7, 8, 9] [10, 11, 12, 13, 14, 15, 16, 17] [] [16] [[16, 0], [16, 9, 8, 7, 4, 3], [16, 9, 8, 7, 6, 5]] [] fol (by kernel_rfl) rfl (by kernel_rfl) rfl rfl ?_
  refine s_lda rfl hC38.cells Tryd.isAgg61 rfl Tryd.sizeOf61 rfl (s_mv rfl rfl (s_mv rfl rfl (Reg.gsplit (t := 18) rfl (fun hg61 => ?_) (fun hg61 => ?_))))
  ·replace h40 := cdT hg61 h40
   refine Reg.take rfl rfl (s_fa rfl Tryd.underlying61 rfl Tryd.sizeOf3 rfl (Reg.take rfl rfl (s_ld rfl (hC38.cells.at 1 rfl) Tryd.isAgg3 rfl (Reg.take rfl rfl (s_fa rfl Tryd.underlying61 rfl Tryd.sizeOf3 rfl (Reg.take rfl rfl (s_ld rfl ((hC12.adv (x16.trans (x33.trans (x36.trans (hI35.eraseH 0))))).cells.at 1 rfl) Tryd.isAgg3 rfl (Reg.take rfl rfl (s_eql rfl rfl rfl (s_pkT rfl rfl rfl (s_mv rfl rfl ?_)))))))))))
   refine Reg.nilX ⟨rfl, rfl, rfl, ?_⟩
   intro w62 e63
   have hI64 := (Hp.start (Mu := []) hI37.mlt).ext e63
   refine bsplit (b := decide (y17.source = r.source)) (fun hg65 => ?_) (fun hg65 => ?_)
   ·replace h40 := cdT hg65 h40
    rw [show Value.bool (decide (y17.source = r.source)) = Value.bool true from congrArg Value.bool hg65]
    refine SeaWalk.dag [([10, 11, 12, 13, 14, 15, 16, 17], _, fun w_ => Ext w34 w_), ([11, 12, 13, 14, 15, 16, 17], [(3, vp b7 0), (4, vp b13 0), (16, Value.agg (List.toArray (vR y17))), (25, Value.bool true), (26, vp b30 2)], fun w_ => Ext w34 w_), ([10, 11, 13, 14, 15, 16, 17], [(4, vp b13 0), (6, vp b30 0), (16, Value.agg (List.toArray (vR y17))), (25, Value.bool true), (28, vp b7 2)], fun w_ => Ext w34 w_), ([10, 11, 12, 13, 14, 15, 17], [(3, vp b7 0), (4, vp b13 0), (6, vp b30 0), (25, Value.bool true)], fun w_ => Hp w [] M [rowR 61 b13 (vR y17)] w_ ∧ Adv (mm [rowR 61 b13 zR] M) (mm [rowR 61 b13 (vR y17)] M) w34 w_), ([12, 13, 14, 15, 16, 17], [(3, vp b7 0), (4, vp b13 0), (16, Value.agg (List.toArray (vR y17))), (25, Value.bool true), (27, vi y17.account)], fun w_ => Ext w34 w_), ([11, 13, 14, 15, 16, 17], [(4, vp b13 0), (16, Value.agg (List.toArray (vR y17))), (25, Value.bool true), (26, vp b30 2), (28, vp b7 2)], fun w_ => Ext w34 w_), ([11, 12, 13, 14, 15, 17], [(3, vp b7 0), (4, vp b13 0), (25, Value.bool true), (26, vp b30 2)], fun w_ => Hp w [] M [rowR 61 b13 (vR y17)] w_ ∧ Adv (mm [rowR 61 b13 zR] M) (mm [rowR 61 b13 (vR y17)] M) w34 w_), ([10, 11, 14, 15, 16, 17], [(4, vp b13 0), (6, vp b30 0), (16, Value.agg (List.toArray (vR y17))), (25, Value.bool true), (29, vi r.account)], fun w_ => Ext w34 w_), ([10, 11, 13, 14, 15, 17], [(4, vp b13 0), (6, vp b30 0), (25, Value.bool true), (28, vp b7 2)], fun w_ => Hp w [] M [rowR 61 b13 (vR y17)] w_ ∧ Adv (mm [rowR 61 b13 zR] M) (mm [rowR 61 b13 (vR y17)] M) w34 w_), ([13, 14, 15, 16, 17], [(4, vp b13 0), (16, Value.agg (List.toArray (vR y17))), (25, Value.bool true), (27, vi y17.account), (28, vp b7 2)], fun w_ => Ext w34 w_), ([12, 13, 14, 15, 17], [(3, vp b7 0), (4, vp b13 0), (25, Value.bool true), (27, vi y17.account)], fun w_ => Hp w [] M [rowR 61 b13 (vR y17)] w_ ∧ Adv (mm [rowR 61 b13 zR] M) (mm [rowR 61 b13 (vR y17)] M) w34 w_), ([11, 14, 15, 16, 17], [(4, vp b13 0), (16, Value.agg (List.toArray (vR y17))), (25, Value.bool true), (26, vp b30 2), (29, vi r.account)], fun w_ => Ext w34 w_), ([11, 13, 14, 15, 17], [(4, vp b13 0), (25, Value.bool true), (26, vp b30 2), (28, vp b7 2)], fun w_ => Hp w [] M [rowR 61 b13 (vR y17)] w_ ∧ Adv (mm [rowR 61 b13 zR] M) (mm [rowR 61 b13 (vR y17)] M) w34 w_), ([10, 11, 14, 15, 17], [(4, vp b13 0), (6, vp b30 0), (25, Value.bool true), (29, vi r.account)], fun w_ => Hp w [] M [rowR 61 b13 (vR y17)] w_ ∧ Adv (mm [rowR 61 b13 zR] M) (mm [rowR 61 b13 (vR y17)] M) w34 w_), ([14, 15, 16, 17], [(4, vp b13 0), (16, Value.agg (List.toArray (vR y17))), (25, Value.bool true), (27, vi y17.account), (29, vi r.account)], fun w_ => Ext w34 w_), ([13, 14, 15, 17], [(4, vp b13 0), (25, Value.bool true), (27, vi y17.account), (28, vp b7 2)], fun w_ => Hp w [] M [rowR 61 b13 (vR y17)] w_ ∧ Adv (mm [rowR 61 b13 zR] M) (mm [rowR 61 b13 (vR y17)] M) w34 w_), ([11, 14, 15, 17], [(4, vp b13 0), (25, Value.bool true), (26, vp b30 2), (29, vi r.account)], fun w_ => Hp w [] M [rowR 61 b13 (vR y17)] w_ ∧ Adv (mm [rowR 61 b13 zR] M) (mm [rowR 61 b13 (vR y17)] M) w34 w_), ([15, 16, 17], [(4, vp b13 0), (16, Value.agg (List.toArray (vR y17))), (25, Value.bool true), (30, Value.bool (decide (y17.account = r.account)))], fun w_ => Ext w34 w_), ([14, 15, 17], [(4, vp b13 0), (25, Value.bool true), (27, vi y17.account), (29, vi r.account)], fun w_ => Hp w [] M [rowR 61 b13 (vR y17)] w_ ∧ Adv (mm [rowR 61 b13 zR] M) (mm [rowR 61 b13 (vR y17)] M) w34 w_), ([16, 17], [(4, vp b13 0), (16, Value.agg (List.toArray (vR y17))), (31, Value.bool (decide (y17.account = r.account)))], fun w_ => Ext w34 w_), ([15, 17], [(4, vp b13 0), (25, Value.bool true), (30, Value.bool (decide (y17.account = r.account)))], fun w_ => Hp w [] M [rowR 61 b13 (vR y17)] w_ ∧ Adv (mm [rowR 61 b13 zR] M) (mm [rowR 61 b13 (vR y17)] M) w34 w_), ([17], [(4, vp b13 0), (31, Value.bool (decide (y17.account = r.account)))], fun w_ => Hp w [] M [rowR 61 b13 (vR y17)] w_ ∧ Adv (mm [rowR 61 b13 zR] M) (mm [rowR 61 b13 (vR y17)] M) w34 w_), ([], [(4, vp b13 0), (5, Value.bool (decide (y17.account = r.account)))], fun w_ => Hp w [] M [rowR 61 b13 (vR y17)] w_ ∧ Adv (mm [rowR 61 b13 zR] M) (mm [rowR 61 b13 (vR y17)] M) w34 w_)] (AllS.cons ?_ (AllS.cons ?_ (AllS.cons ?_ (AllS.cons ?_ (AllS.cons ?_ (AllS.cons ?_ (AllS.cons ?_ (AllS.cons ?_ (AllS.cons ?_ (AllS.cons ?_ (AllS.cons ?_ (AllS.cons ?_ (AllS.cons ?_ (AllS.cons ?_ (AllS.cons ?_ (AllS.cons ?_ (AllS.cons ?_ (AllS.cons ?_ (AllS.cons ?_ (AllS.cons ?_ (AllS.cons ?_ (AllS.cons ?_ (AllS.cons ?_ (AllS.nil)))))))))))))))))))))))) _ _ _ _ 0 _ rfl rfl hI64.kp
    ·intro w94 ex_
     have hI95 := (Hp.start (Mu := []) hI37.mlt).ext ex_
     refine .inr ⟨List.cons_ne_nil _ _, [10, 12, 16], by kernel_rfl, AllL.cons ?_ (AllL.cons ?_ (AllL.cons ?_ (AllL.nil)))⟩
     ·refine ⟨_, rfl, fun Q_ hQ_ => ?_⟩
      refine Reg.take rfl rfl (s_fa rfl Tryd.underlying61 rfl Tryd.sizeOf3 rfl (Reg.nilK [3, 4, 16, 25, 26] rfl (hQ_ 1 _ _ _ rfl (.inr hI95.kp) rfl (fun w_ e_ => ?_))))
      exact ex_.trans e_
     ·refine ⟨_, rfl, fun Q_ hQ_ => ?_⟩
      refine Reg.take rfl rfl (s_fa rfl Tryd.underlying61 rfl Tryd.sizeOf3 rfl (Reg.nilK [4, 6, 16, 25, 28] rfl (hQ_ 2 _ _ _ rfl (.inr hI95.kp) rfl (fun w_ e_ => ?_))))
      exact ex_.trans e_
     refine ⟨_, rfl, fun Q_ hQ_ => ?_⟩
     have hI96 := hI37.join hI95
     refine y_st 0 hI96 rfl rfl rfl rfl Tryd.sizeOf61 rfl rfl (on8 rfl rfl rfl rfl rfl rfl rfl rfl) ?_
     intro w97 hI98 x99
     refine Reg.nilK [3, 4, 6, 25] rfl (hQ_ 3 _ _ _ rfl (.inl rfl) rfl (fun w_ e_ => ?_))
     exact ⟨hI98.ext e_, ((Adv.of_ext ex_).trans x99).trans (Adv.of_ext e_)⟩
    ·intro w100 ex_
     have hI101 := (Hp.start (Mu := []) hI37.mlt).ext ex_
     refine .inr ⟨List.cons_ne_nil _ _, [11, 12, 16], by kernel_rfl, AllL.cons ?_ (AllL.cons ?_ (AllL.cons ?_ (AllL.nil)))⟩
     ·refine ⟨_, rfl, fun Q_ hQ_ => ?_⟩
      refine Reg.take rfl rfl (s_ld rfl ((hC38.adv (Adv.of_ext ex_)).cells.at 2 rfl) Tryd.isAgg3 rfl (Reg.nilK [3, 4, 16, 25, 27] rfl (hQ_ 4 _ _ _ rfl (.inr hI101.kp) rfl (fun w_ e_ => ?_))))
      exact ex_.trans e_
     ·refine ⟨_, rfl, fun Q_ hQ_ => ?_⟩
      refine Reg.take rfl rfl (s_fa rfl Tryd.underlying61 rfl Tryd.sizeOf3 rfl (Reg.nilK [4, 16, 25, 26, 28] rfl (hQ_ 5 _ _ _ rfl (.inr hI101.kp) rfl (fun w_ e_ => ?_))))
      exact ex_.trans e_
     refine ⟨_, rfl, fun Q_ hQ_ => ?_⟩
     have hI102 := hI37.join hI101
     refine y_st 0 hI102 rfl rfl rfl rfl Tryd.sizeOf61 rfl rfl (on8 rfl rfl rfl rfl rfl rfl rfl rfl) ?_
     intro w103 hI104 x105
     refine Reg.nilK [3, 4, 25, 26] rfl (hQ_ 6 _ _ _ rfl (.inl rfl) rfl (fun w_ e_ => ?_))
     exact ⟨hI104.ext e_, ((Adv.of_ext ex_).trans x105).trans (Adv.of_ext e_)⟩
    ·intro w106 ex_
     have hI107 := (Hp.start (Mu := []) hI37.mlt).ext ex_
     refine .inr ⟨List.cons_ne_nil _ _, [10, 13, 16], by kernel_rfl, AllL.cons ?_ (AllL.cons ?_ (AllL.cons ?_ (AllL.nil)))⟩
     ·refine ⟨_, rfl, fun Q_ hQ_ => ?_⟩
      refine Reg.take rfl rfl (s_fa rfl Tryd.underlying61 rfl Tryd.sizeOf3 rfl (Reg.nilK [4, 16, 25, 26, 28] rfl (hQ_ 5 _ _ _ rfl (.inr hI107.kp) rfl (fun w_ e_ => ?_))))
      exact ex_.trans e_
     ·refine ⟨_, rfl, fun Q_ hQ_ => ?_⟩
      refine Reg.take rfl rfl (s_ld rfl ((hC12.adv (x16.trans (x33.trans (x36.trans ((hI35.eraseH 0).trans (Adv.of_ext ex_)))))).cells.at 2 rfl) Tryd.isAgg3 rfl (Reg.nilK [4, 6, 16, 25, 29] rfl (hQ_ 7 _ _ _ rfl (.inr hI107.kp) rfl (fun w_ e_ => ?_))))
      exact ex_.trans e_
     refine ⟨_, rfl, fun Q_ hQ_ => ?_⟩
     have hI108 := hI37.join hI107
     refine y_st 0 hI108 rfl rfl rfl rfl Tryd.sizeOf61 rfl rfl (on8 rfl rfl rfl rfl rfl rfl rfl rfl) ?_
     intro w109 hI110 x111
     refine Reg.nilK [4, 6, 25, 28] rfl (hQ_ 8 _ _ _ rfl (.inl rfl) rfl (fun w_ e_ => ?_))
     exact ⟨hI110.ext e_, ((Adv.of_ext ex_).trans x111).trans (Adv.of_ext e_)⟩
    ·rintro w112 ⟨hI113, hA_⟩
     refine .inr ⟨List.cons_ne_nil _ _, [10, 12], by kernel_rfl, AllL.cons ?_ (AllL.cons ?_ (AllL.nil))⟩
     ·refine ⟨_, rfl, fun Q_ hQ_ => ?_⟩
      refine Reg.take rfl rfl (s_fa rfl Tryd.underlying61 rfl Tryd.sizeOf3 rfl (Reg.nilK [3, 4, 25, 26] rfl (hQ_ 6 _ _ _ rfl (.inl rfl) rfl (fun w_ e_ => ?_))))
      exact ⟨hI113.ext e_, hA_.trans (Adv.of_ext e_)⟩
     refine ⟨_, rfl, fun Q_ hQ_ => ?_⟩
     refine Reg.take rfl rfl (s_fa rfl Tryd.underlying61 rfl Tryd.sizeOf3 rfl (Reg.nilK [4, 6, 25, 28] rfl (hQ_ 8 _ _ _ rfl (.inl rfl) rfl (fun w_ e_ => ?_))))
     exact ⟨hI113.ext e_, hA_.trans (Adv.of_ext e_)⟩
    ·intro w114 ex_
     have hI115 := (Hp.start (Mu := []) hI37.mlt).ext ex_
     refine .inr ⟨List.cons_ne_nil _ _, [12, 16], by kernel_rfl, AllL.cons ?_ (AllL.cons ?_ (AllL.nil))⟩
     ·refine ⟨_, rfl, fun Q_ hQ_ => ?_⟩
      refine Reg.take rfl rfl (s_fa rfl Tryd.underlying61 rfl Tryd.sizeOf3 rfl (Reg.nilK [4, 16, 25, 27, 28] rfl (hQ_ 9 _ _ _ rfl (.inr hI115.kp) rfl (fun w_ e_ => ?_))))
      exact ex_.trans e_
     refine ⟨_, rfl, fun Q_ hQ_ => ?_⟩
     have hI116 := hI37.join hI115
     refine y_st 0 hI116 rfl rfl rfl rfl Tryd.sizeOf61 rfl rfl (on8 rfl rfl rfl rfl rfl rfl rfl rfl) ?_
     intro w117 hI118 x119
     refine Reg.nilK [3, 4, 25, 27] rfl (hQ_ 10 _ _ _ rfl (.inl rfl) rfl (fun w_ e_ => ?_))
     exact ⟨hI118.ext e_, ((Adv.of_ext ex_).trans x119).trans (Adv.of_ext e_)⟩
    ·intro w120 ex_
     have hI121 := (Hp.start (Mu := []) hI37.mlt).ext ex_
     refine .inr ⟨List.cons_ne_nil _ _, [11, 13, 16], by kernel_rfl, AllL.cons ?_ (AllL.cons ?_ (AllL.cons ?_ (AllL.nil)))⟩
     ·refine ⟨_, rfl, fun Q_ hQ_ => ?_⟩
      refine Reg.take rfl rfl (s_ld rfl ((hC38.adv (Adv.of_ext ex_)).cells.at 2 rfl) Tryd.isAgg3 rfl (Reg.nilK [4, 16, 25, 27, 28] rfl (hQ_ 9 _ _ _ rfl (.inr hI121.kp) rfl (fun w_ e_ => ?_))))
      exact ex_.trans e_
     ·refine ⟨_, rfl, fun Q_ hQ_ => ?_⟩
      refine Reg.take rfl rfl (s_ld rfl ((hC12.adv (x16.trans (x33.trans (x36.trans ((hI35.eraseH 0).trans (Adv.of_ext ex_)))))).cells.at 2 rfl) Tryd.isAgg3 rfl (Reg.nilK [4, 16, 25, 26, 29] rfl (hQ_ 11 _ _ _ rfl (.inr hI121.kp) rfl (fun w_ e_ => ?_))))
      exact ex_.trans e_
     refine ⟨_, rfl, fun Q_ hQ_ => ?_⟩
     have hI122 := hI37.join hI121
     refine y_st 0 hI122 rfl rfl rfl rfl Tryd.sizeOf61 rfl rfl (on8 rfl rfl rfl rfl rfl rfl rfl rfl) ?_
     intro w123 hI124 x125
     refine Reg.nilK [4, 25, 26, 28] rfl (hQ_ 12 _ _ _ rfl (.inl rfl) rfl (fun w_ e_ => ?_))
     exact ⟨hI124.ext e_, ((Adv.of_ext ex_).trans x125).trans (Adv.of_ext e_)⟩
    ·rintro w126 ⟨hI127, hA_⟩
     refine .inr ⟨List.cons_ne_nil _ _, [11, 12], by kernel_rfl, AllL.cons ?_ (AllL.cons ?_ (AllL.nil))⟩
     ·refine ⟨_, rfl, fun Q_ hQ_ => ?_⟩
      refine Reg.take rfl rfl (s_ld rfl ((hC38.adv hA_).cells.at 2 rfl) Tryd.isAgg3 rfl (Reg.nilK [3, 4, 25, 27] rfl (hQ_ 10 _ _ _ rfl (.inl rfl) rfl (fun w_ e_ => ?_))))
      exact ⟨hI127.ext e_, hA_.trans (Adv.of_ext e_)⟩
     refine ⟨_, rfl, fun Q_ hQ_ => ?_⟩
     refine Reg.take rfl rfl (s_fa rfl Tryd.underlying61 rfl Tryd.sizeOf3 rfl (Reg.nilK [4, 25, 26, 28] rfl (hQ_ 12 _ _ _ rfl (.inl rfl) rfl (fun w_ e_ => ?_))))
     exact ⟨hI127.ext e_, hA_.trans (Adv.of_ext e_)⟩
    ·intro w128 ex_
     have hI129 := (Hp.start (Mu := []) hI37.mlt).ext ex_
     refine .inr ⟨List.cons_ne_nil _ _, [10, 16], by kernel_rfl, AllL.cons ?_ (AllL.cons ?_ (AllL.nil))⟩
     ·refine ⟨_, rfl, fun Q_ hQ_ => ?_⟩
      refine Reg.take rfl rfl (s_fa rfl Tryd.underlying61 rfl Tryd.sizeOf3 rfl (Reg.nilK [4, 16, 25, 26, 29] rfl (hQ_ 11 _ _ _ rfl (.inr hI129.kp) rfl (fun w_ e_ => ?_))))
      exact ex_.trans e_
     refine ⟨_, rfl, fun Q_ hQ_ => ?_⟩
     have hI130 := hI37.join hI129
     refine y_st 0 hI130 rfl rfl rfl rfl Tryd.sizeOf61 rfl rfl (on8 rfl rfl rfl rfl rfl rfl rfl rfl) ?_
     intro w131 hI132 x133
     refine Reg.nilK [4, 6, 25, 29] rfl (hQ_ 13 _ _ _ rfl (.inl rfl) rfl (fun w_ e_ => ?_))
     exact ⟨hI132.ext e_, ((Adv.of_ext ex_).trans x133).trans (Adv.of_ext e_)⟩
    ·rintro w134 ⟨hI135, hA_⟩
     refine .inr ⟨List.cons_ne_nil _ _, [10, 13], by kernel_rfl, AllL.cons ?_ (AllL.cons ?_ (AllL.nil))⟩
     ·refine ⟨_, rfl, fun Q_ hQ_ => ?_⟩
      refine Reg.take rfl rfl (s_fa rfl Tryd.underlying61 rfl Tryd.sizeOf3 rfl (Reg.nilK [4, 25, 26, 28] rfl (hQ_ 12 _ _ _ rfl (.inl rfl) rfl (fun w_ e_ => ?_))))
      exact ⟨hI135.ext e_, hA_.trans (Adv.of_ext e_)⟩
     refine ⟨_, rfl, fun Q_ hQ_ => ?_⟩
     refine Reg.take rfl rfl (s_ld rfl ((hC12.adv (x16.trans (x33.trans (x36.trans ((hI35.eraseH 0).trans hA_))))).cells.at 2 rfl) Tryd.isAgg3 rfl (Reg.nilK [4, 6, 25, 29] rfl (hQ_ 13 _ _ _ rfl (.inl rfl) rfl (fun w_ e_ => ?_))))
     exact ⟨hI135.ext e_, hA_.trans (Adv.of_ext e_)⟩
    ·intro w136 ex_
     have hI137 := (Hp.start (Mu := []) hI37.mlt).ext ex_
     refine .inr ⟨List.cons_ne_nil _ _, [13, 16], by kernel_rfl, AllL.cons ?_ (AllL.cons ?_ (AllL.nil))⟩
     ·refine ⟨_, rfl, fun Q_ hQ_ => ?_⟩
      refine Reg.take rfl rfl (s_ld rfl ((hC12.adv (x16.trans (x33.trans (x36.trans ((hI35.eraseH 0).trans (Adv.of_ext ex_)))))).cells.at 2 rfl) Tryd.isAgg3 rfl (Reg.nilK [4, 16, 25, 27, 29] rfl (hQ_ 14 _ _ _ rfl (.inr hI137.kp) rfl (fun w_ e_ => ?_))))
      exact ex_.trans e_
     refine ⟨_, rfl, fun Q_ hQ_ => ?_⟩
     have hI138 := hI37.join hI137
     refine y_st 0 hI138 rfl rfl rfl rfl Tryd.sizeOf61 rfl rfl (on8 rfl rfl rfl rfl rfl rfl rfl rfl) ?_
     intro w139 hI140 x141
     refine Reg.nilK [4, 25, 27, 28] rfl (hQ_ 15 _ _ _ rfl (.inl rfl) rfl (fun w_ e_ => ?_))
     exact ⟨hI140.ext e_, ((Adv.of_ext ex_).trans x141).trans (Adv.of_ext e_)⟩
    ·rintro w142 ⟨hI143, hA_⟩
     refine .inr ⟨List.cons_ne_nil _ _, [12], by kernel_rfl, AllL.cons ?_ (AllL.nil)⟩
     refine ⟨_, rfl, fun Q_ hQ_ => ?_⟩
     refine Reg.take rfl rfl (s_fa rfl Tryd.underlying61 rfl Tryd.sizeOf3 rfl (Reg.nilK [4, 25, 27, 28] rfl (hQ_ 15 _ _ _ rfl (.inl rfl) rfl (fun w_ e_ => ?_))))
     exact ⟨hI143.ext e_, hA_.trans (Adv.of_ext e_)⟩
    ·intro w144 ex_
     have hI145 := (Hp.start (Mu := []) hI37.mlt).ext ex_
     refine .inr ⟨List.cons_ne_nil _ _, [11, 16], by kernel_rfl, AllL.cons ?_ (AllL.cons ?_ (AllL.nil))⟩
     ·refine ⟨_, rfl, fun Q_ hQ_ => ?_⟩
      refine Reg.take rfl rfl (s_ld rfl ((hC38.adv (Adv.of_ext ex_)).cells.at 2 rfl) Tryd.isAgg3 rfl (Reg.nilK [4, 16, 25, 27, 29] rfl (hQ_ 14 _ _ _ rfl (.inr hI145.kp) rfl (fun w_ e_ => ?_))))
      exact ex_.trans e_
     refine ⟨_, rfl, fun Q_ hQ_ => ?_⟩
     have hI146 := hI37.join hI145
     refine y_st 0 hI146 rfl rfl rfl rfl Tryd.sizeOf61 rfl rfl (on8 rfl rfl rfl rfl rfl rfl rfl rfl) ?_
     intro w147 hI148 x149
     refine Reg.nilK [4, 25, 26, 29] rfl (hQ_ 16 _ _ _ rfl (.inl rfl) rfl (fun w_ e_ => ?_))
     exact ⟨hI148.ext e_, ((Adv.of_ext ex_).trans x149).trans (Adv.of_ext e_)⟩
    ·rintro w150 ⟨hI151, hA_⟩
     refine .inr ⟨List.cons_ne_nil _ _, [11, 13], by kernel_rfl, AllL.cons ?_ (AllL.cons ?_ (AllL.nil))⟩
     ·refine ⟨_, rfl, fun Q_ hQ_ => ?_⟩
      refine Reg.take rfl rfl (s_ld rfl ((hC38.adv hA_).cells.at 2 rfl) Tryd.isAgg3 rfl (Reg.nilK [4, 25, 27, 28] rfl (hQ_ 15 _ _ _ rfl (.inl rfl) rfl (fun w_ e_ => ?_))))
      exact ⟨hI151.ext e_, hA_.trans (Adv.of_ext e_)⟩
     refine ⟨_, rfl, fun Q_ hQ_ => ?_⟩
     refine Reg.take rfl rfl (s_ld rfl ((hC12.adv (x16.trans (x33.trans (x36.trans ((hI35.eraseH 0).trans hA_))))).cells.at 2 rfl) Tryd.isAgg3 rfl (Reg.nilK [4, 25, 26, 29] rfl (hQ_ 16 _ _ _ rfl (.inl rfl) rfl (fun w_ e_ => ?_))))
     exact ⟨hI151.ext e_, hA_.trans (Adv.of_ext e_)⟩
    ·rintro w152 ⟨hI153, hA_⟩
     refine .inr ⟨List.cons_ne_nil _ _, [10], by kernel_rfl, AllL.cons ?_ (AllL.nil)⟩
     refine ⟨_, rfl, fun Q_ hQ_ => ?_⟩
     refine Reg.take rfl rfl (s_fa rfl Tryd.underlying61 rfl Tryd.sizeOf3 rfl (Reg.nilK [4, 25, 26, 29] rfl (hQ_ 16 _ _ _ rfl (.inl rfl) rfl (fun w_ e_ => ?_))))
     exact ⟨hI153.ext e_, hA_.trans (Adv.of_ext e_)⟩
    ·intro w154 ex_
     have hI155 := (Hp.start (Mu := []) hI37.mlt).ext ex_
     refine .inr ⟨List.cons_ne_nil _ _, [14, 16], by kernel_rfl, AllL.cons ?_ (AllL.cons ?_ (AllL.nil))⟩
     ·refine ⟨_, rfl, fun Q_ hQ_ => ?_⟩
      refine Reg.take rfl rfl (s_eql rfl rfl rfl (Reg.nilK [4, 16, 25, 30] rfl (hQ_ 17 _ _ _ rfl (.inr hI155.kp) rfl (fun w_ e_ => ?_))))
      exact ex_.trans e_
     refine ⟨_, rfl, fun Q_ hQ_ => ?_⟩
     have hI156 := hI37.join hI155
     refine y_st 0 hI156 rfl rfl rfl rfl Tryd.sizeOf61 rfl rfl (on8 rfl rfl rfl rfl rfl rfl rfl rfl) ?_
     intro w157 hI158 x159
     refine Reg.nilK [4, 25, 27, 29] rfl (hQ_ 18 _ _ _ rfl (.inl rfl) rfl (fun w_ e_ => ?_))
     exact ⟨hI158.ext e_, ((Adv.of_ext ex_).trans x159).trans (Adv.of_ext e_)⟩
    ·rintro w160 ⟨hI161, hA_⟩
     refine .inr ⟨List.cons_ne_nil _ _, [13], by kernel_rfl, AllL.cons ?_ (AllL.nil)⟩
     refine ⟨_, rfl, fun Q_ hQ_ => ?_⟩
     refine Reg.take rfl rfl (s_ld rfl ((hC12.adv (x16.trans (x33.trans (x36.trans ((hI35.eraseH 0).trans hA_))))).cells.at 2 rfl) Tryd.isAgg3 rfl (Reg.nilK [4, 25, 27, 29] rfl (hQ_ 18 _ _ _ rfl (.inl rfl) rfl (fun w_ e_ => ?_))))
     exact ⟨hI161.ext e_, hA_.trans (Adv.of_ext e_)⟩
    ·rintro w162 ⟨hI163, hA_⟩
     refine .inr ⟨List.cons_ne_nil _ _, [11], by kernel_rfl, AllL.cons ?_ (AllL.nil)⟩
     refine ⟨_, rfl, fun Q_ hQ_ => ?_⟩
     refine Reg.take rfl rfl (s_ld rfl ((hC38.adv hA_).cells.at 2 rfl) Tryd.isAgg3 rfl (Reg.nilK [4, 25, 27, 29] rfl (hQ_ 18 _ _ _ rfl (.inl rfl) rfl (fun w_ e_ => ?_))))
     exact ⟨hI163.ext e_, hA_.trans (Adv.of_ext e_)⟩
    ·intro w164 ex_
     have hI165 := (Hp.start (Mu := []) hI37.mlt).ext ex_
     refine .inr ⟨List.cons_ne_nil _ _, [15, 16], by kernel_rfl, AllL.cons ?_ (AllL.cons ?_ (AllL.nil))⟩
     ·refine ⟨_, rfl, fun Q_ hQ_ => ?_⟩
      refine s_pkT rfl rfl rfl (Reg.nilK [4, 16, 31] rfl (hQ_ 19 _ _ _ rfl (.inr hI165.kp) rfl (fun w_ e_ => ?_)))
      exact ex_.trans e_
     refine ⟨_, rfl, fun Q_ hQ_ => ?_⟩
     have hI166 := hI37.join hI165
     refine y_st 0 hI166 rfl rfl rfl rfl Tryd.sizeOf61 rfl rfl (on8 rfl rfl rfl rfl rfl rfl rfl rfl) ?_
     intro w167 hI168 x169
     refine Reg.nilK [4, 25, 30] rfl (hQ_ 20 _ _ _ rfl (.inl rfl) rfl (fun w_ e_ => ?_))
     exact ⟨hI168.ext e_, ((Adv.of_ext ex_).trans x169).trans (Adv.of_ext e_)⟩
    ·rintro w170 ⟨hI171, hA_⟩
     refine .inr ⟨List.cons_ne_nil _ _, [14], by kernel_rfl, AllL.cons ?_ (AllL.nil)⟩
     refine ⟨_, rfl, fun Q_ hQ_ => ?_⟩
     refine Reg.take rfl rfl (s_eql rfl rfl rfl (Reg.nilK [4, 25, 30] rfl (hQ_ 20 _ _ _ rfl (.inl rfl) rfl (fun w_ e_ => ?_))))
     exact ⟨hI171.ext e_, hA_.trans (Adv.of_ext e_)⟩
    ·intro w172 ex_
     have hI173 := (Hp.start (Mu := []) hI37.mlt).ext ex_
     refine .inr ⟨List.cons_ne_nil _ _, [16], by kernel_rfl, AllL.cons ?_ (AllL.nil)⟩
     refine ⟨_, rfl, fun Q_ hQ_ => ?_⟩
     have hI174 := hI37.join hI173
     refine y_st 0 hI174 rfl rfl rfl rfl Tryd.sizeOf61 rfl rfl (on8 rfl rfl rfl rfl rfl rfl rfl rfl) ?_
     intro w175 hI176 x177
     refine Reg.nilK [4, 31] rfl (hQ_ 21 _ _ _ rfl (.inl rfl) rfl (fun w_ e_ => ?_))
     exact ⟨hI176.ext e_, ((Adv.of_ext ex_).trans x177).trans (Adv.of_ext e_)⟩
    ·rintro w178 ⟨hI179, hA_⟩
     refine .inr ⟨List.cons_ne_nil _ _, [15], by kernel_rfl, AllL.cons ?_ (AllL.nil)⟩
     refine ⟨_, rfl, fun Q_ hQ_ => ?_⟩
     refine s_pkT rfl rfl rfl (Reg.nilK [4, 31] rfl (hQ_ 21 _ _ _ rfl (.inl rfl) rfl (fun w_ e_ => ?_)))
     exact ⟨hI179.ext e_, hA_.trans (Adv.of_ext e_)⟩
    ·rintro w180 ⟨hI181, hA_⟩
     refine .inr ⟨List.cons_ne_nil _ _, [17], by kernel_rfl, AllL.cons ?_ (AllL.nil)⟩
     refine ⟨_, rfl, fun Q_ hQ_ => ?_⟩
     refine s_as rfl rfl (Reg.nilK [4, 5] rfl (hQ_ 22 _ _ _ rfl (.inl rfl) rfl (fun w_ e_ => ?_)))
     exact ⟨hI181.ext e_, hA_.trans (Adv.of_ext e_)⟩
    rintro w182 ⟨hI183, hA_⟩
    refine .inl ⟨rfl, ?_⟩
    obtain rfl := Option.some.inj h40
    refine ⟨rfl, (decide (y17.account = r.account), y17.id, y17.source, y17.account, y17.made, y17.about, y17.kind, y17.cents, y17.of_), ⟨hI183, hA_, r22, r23, r24, r25, r26, r27, r28, r29, rfl⟩, sb2 rfl rfl⟩
   replace h40 := cdF hg65 h40
   rw [show Value.bool (decide (y17.source = r.source)) = Value.bool false from congrArg Value.bool hg65]
   refine SeaWalk.dag [([10, 11, 12, 13, 14, 15, 16, 17], _, fun w_ => Ext w34 w_), ([11, 12, 13, 14, 15, 16, 17], [(3, vp b7 0), (4, vp b13 0), (16, Value.agg (List.toArray (vR y17))), (25, Value.bool false)], fun w_ => Ext w34 w_), ([10, 11, 13, 14, 15, 16, 17], [(4, vp b13 0), (6, vp b30 0), (16, Value.agg (List.toArray (vR y17))), (25, Value.bool false)], fun w_ => Ext w34 w_), ([10, 11, 12, 13, 14, 15, 17], [(3, vp b7 0), (4, vp b13 0), (6, vp b30 0), (25, Value.bool false)], fun w_ => Hp w [] M [rowR 61 b13 (vR y17)] w_ ∧ Adv (mm [rowR 61 b13 zR] M) (mm [rowR 61 b13 (vR y17)] M) w34 w_), ([12, 13, 14, 15, 16, 17], [(3, vp b7 0), (4, vp b13 0), (16, Value.agg (List.toArray (vR y17))), (25, Value.bool false)], fun w_ => Ext w34 w_), ([11, 13, 14, 15, 16, 17], [(4, vp b13 0), (16, Value.agg (List.toArray (vR y17))), (25, Value.bool false)], fun w_ => Ext w34 w_), ([11, 12, 13, 14, 15, 17], [(3, vp b7 0), (4, vp b13 0), (25, Value.bool false)], fun w_ => Hp w [] M [rowR 61 b13 (vR y17)] w_ ∧ Adv (mm [rowR 61 b13 zR] M) (mm [rowR 61 b13 (vR y17)] M) w34 w_), ([10, 11, 14, 15, 16, 17], [(4, vp b13 0), (6, vp b30 0), (16, Value.agg (List.toArray (vR y17))), (25, Value.bool false)], fun w_ => Ext w34 w_), ([10, 11, 13, 14, 15, 17], [(4, vp b13 0), (6, vp b30 0), (25, Value.bool false)], fun w_ => Hp w [] M [rowR 61 b13 (vR y17)] w_ ∧ Adv (mm [rowR 61 b13 zR] M) (mm [rowR 61 b13 (vR y17)] M) w34 w_), ([13, 14, 15, 16, 17], [(4, vp b13 0), (16, Value.agg (List.toArray (vR y17))), (25, Value.bool false)], fun w_ => Ext w34 w_), ([12, 13, 14, 15, 17], [(3, vp b7 0), (4, vp b13 0), (25, Value.bool false)], fun w_ => Hp w [] M [rowR 61 b13 (vR y17)] w_ ∧ Adv (mm [rowR 61 b13 zR] M) (mm [rowR 61 b13 (vR y17)] M) w34 w_), ([11, 14, 15, 16, 17], [(4, vp b13 0), (16, Value.agg (List.toArray (vR y17))), (25, Value.bool false)], fun w_ => Ext w34 w_), ([11, 13, 14, 15, 17], [(4, vp b13 0), (25, Value.bool false)], fun w_ => Hp w [] M [rowR 61 b13 (vR y17)] w_ ∧ Adv (mm [rowR 61 b13 zR] M) (mm [rowR 61 b13 (vR y17)] M) w34 w_), ([10, 11, 14, 15, 17], [(4, vp b13 0), (6, vp b30 0), (25, Value.bool false)], fun w_ => Hp w [] M [rowR 61 b13 (vR y17)] w_ ∧ Adv (mm [rowR 61 b13 zR] M) (mm [rowR 61 b13 (vR y17)] M) w34 w_), ([14, 15, 16, 17], [(4, vp b13 0), (16, Value.agg (List.toArray (vR y17))), (25, Value.bool false)], fun w_ => Ext w34 w_), ([13, 14, 15, 17], [(4, vp b13 0), (25, Value.bool false)], fun w_ => Hp w [] M [rowR 61 b13 (vR y17)] w_ ∧ Adv (mm [rowR 61 b13 zR] M) (mm [rowR 61 b13 (vR y17)] M) w34 w_), ([11, 14, 15, 17], [(4, vp b13 0), (25, Value.bool false)], fun w_ => Hp w [] M [rowR 61 b13 (vR y17)] w_ ∧ Adv (mm [rowR 61 b13 zR] M) (mm [rowR 61 b13 (vR y17)] M) w34 w_), ([15, 16, 17], [(4, vp b13 0), (16, Value.agg (List.toArray (vR y17))), (25, Value.bool false)], fun w_ => Ext w34 w_), ([14, 15, 17], [(4, vp b13 0), (25, Value.bool false)], fun w_ => Hp w [] M [rowR 61 b13 (vR y17)] w_ ∧ Adv (mm [rowR 61 b13 zR] M) (mm [rowR 61 b13 (vR y17)] M) w34 w_), ([16, 17], [(4, vp b13 0), (16, Value.agg (List.toArray (vR y17))), (31, Value.bool false)], fun w_ => Ext w34 w_), ([15, 17], [(4, vp b13 0), (25, Value.bool false)], fun w_ => Hp w [] M [rowR 61 b13 (vR y17)] w_ ∧ Adv (mm [rowR 61 b13 zR] M) (mm [rowR 61 b13 (vR y17)] M) w34 w_), ([17], [(4, vp b13 0), (31, Value.bool false)], fun w_ => Hp w [] M [rowR 61 b13 (vR y17)] w_ ∧ Adv (mm [rowR 61 b13 zR] M) (mm [rowR 61 b13 (vR y17)] M) w34 w_), ([], [(4, vp b13 0), (5, Value.bool false)], fun w_ => Hp w [] M [rowR 61 b13 (vR y17)] w_ ∧ Adv (mm [rowR 61 b13 zR] M) (mm [rowR 61 b13 (vR y17)] M) w34 w_)] (AllS.cons ?_ (AllS.cons ?_ (AllS.cons ?_ (AllS.cons ?_ (AllS.cons ?_ (AllS.cons ?_ (AllS.cons ?_ (AllS.cons ?_ (AllS.cons ?_ (AllS.cons ?_ (AllS.cons ?_ (AllS.cons ?_ (AllS.cons ?_ (AllS.cons ?_ (AllS.cons ?_ (AllS.cons ?_ (AllS.cons ?_ (AllS.cons ?_ (AllS.cons ?_ (AllS.cons ?_ (AllS.cons ?_ (AllS.cons ?_ (AllS.cons ?_ (AllS.nil)))))))))))))))))))))))) _ _ _ _ 0 _ rfl rfl hI64.kp
   ·intro w212 ex_
    have hI213 := (Hp.start (Mu := []) hI37.mlt).ext ex_
    refine .inr ⟨List.cons_ne_nil _ _, [10, 12, 16], by kernel_rfl, AllL.cons ?_ (AllL.cons ?_ (AllL.cons ?_ (AllL.nil)))⟩
    ·refine ⟨_, rfl, fun Q_ hQ_ => ?_⟩
     refine Reg.pass rfl rfl rfl rfl (Reg.nilK [3, 4, 16, 25] rfl (hQ_ 1 _ _ _ rfl (.inr hI213.kp) rfl (fun w_ e_ => ?_)))
     exact ex_.trans e_
    ·refine ⟨_, rfl, fun Q_ hQ_ => ?_⟩
     refine Reg.pass rfl rfl rfl rfl (Reg.nilK [4, 6, 16, 25] rfl (hQ_ 2 _ _ _ rfl (.inr hI213.kp) rfl (fun w_ e_ => ?_)))
     exact ex_.trans e_
    refine ⟨_, rfl, fun Q_ hQ_ => ?_⟩
    have hI214 := hI37.join hI213
    refine y_st 0 hI214 rfl rfl rfl rfl Tryd.sizeOf61 rfl rfl (on8 rfl rfl rfl rfl rfl rfl rfl rfl) ?_
    intro w215 hI216 x217
    refine Reg.nilK [3, 4, 6, 25] rfl (hQ_ 3 _ _ _ rfl (.inl rfl) rfl (fun w_ e_ => ?_))
    exact ⟨hI216.ext e_, ((Adv.of_ext ex_).trans x217).trans (Adv.of_ext e_)⟩
   ·intro w218 ex_
    have hI219 := (Hp.start (Mu := []) hI37.mlt).ext ex_
    refine .inr ⟨List.cons_ne_nil _ _, [11, 12, 16], by kernel_rfl, AllL.cons ?_ (AllL.cons ?_ (AllL.cons ?_ (AllL.nil)))⟩
    ·refine ⟨_, rfl, fun Q_ hQ_ => ?_⟩
     refine Reg.pass rfl rfl rfl rfl (Reg.nilK [3, 4, 16, 25] rfl (hQ_ 4 _ _ _ rfl (.inr hI219.kp) rfl (fun w_ e_ => ?_)))
     exact ex_.trans e_
    ·refine ⟨_, rfl, fun Q_ hQ_ => ?_⟩
     refine Reg.pass rfl rfl rfl rfl (Reg.nilK [4, 16, 25] rfl (hQ_ 5 _ _ _ rfl (.inr hI219.kp) rfl (fun w_ e_ => ?_)))
     exact ex_.trans e_
    refine ⟨_, rfl, fun Q_ hQ_ => ?_⟩
    have hI220 := hI37.join hI219
    refine y_st 0 hI220 rfl rfl rfl rfl Tryd.sizeOf61 rfl rfl (on8 rfl rfl rfl rfl rfl rfl rfl rfl) ?_
    intro w221 hI222 x223
    refine Reg.nilK [3, 4, 25] rfl (hQ_ 6 _ _ _ rfl (.inl rfl) rfl (fun w_ e_ => ?_))
    exact ⟨hI222.ext e_, ((Adv.of_ext ex_).trans x223).trans (Adv.of_ext e_)⟩
   ·intro w224 ex_
    have hI225 := (Hp.start (Mu := []) hI37.mlt).ext ex_
    refine .inr ⟨List.cons_ne_nil _ _, [10, 13, 16], by kernel_rfl, AllL.cons ?_ (AllL.cons ?_ (AllL.cons ?_ (AllL.nil)))⟩
    ·refine ⟨_, rfl, fun Q_ hQ_ => ?_⟩
     refine Reg.pass rfl rfl rfl rfl (Reg.nilK [4, 16, 25] rfl (hQ_ 5 _ _ _ rfl (.inr hI225.kp) rfl (fun w_ e_ => ?_)))
     exact ex_.trans e_
    ·refine ⟨_, rfl, fun Q_ hQ_ => ?_⟩
     refine Reg.pass rfl rfl rfl rfl (Reg.nilK [4, 6, 16, 25] rfl (hQ_ 7 _ _ _ rfl (.inr hI225.kp) rfl (fun w_ e_ => ?_)))
     exact ex_.trans e_
    refine ⟨_, rfl, fun Q_ hQ_ => ?_⟩
    have hI226 := hI37.join hI225
    refine y_st 0 hI226 rfl rfl rfl rfl Tryd.sizeOf61 rfl rfl (on8 rfl rfl rfl rfl rfl rfl rfl rfl) ?_
    intro w227 hI228 x229
    refine Reg.nilK [4, 6, 25] rfl (hQ_ 8 _ _ _ rfl (.inl rfl) rfl (fun w_ e_ => ?_))
    exact ⟨hI228.ext e_, ((Adv.of_ext ex_).trans x229).trans (Adv.of_ext e_)⟩
   ·rintro w230 ⟨hI231, hA_⟩
    refine .inr ⟨List.cons_ne_nil _ _, [10, 12], by kernel_rfl, AllL.cons ?_ (AllL.cons ?_ (AllL.nil))⟩
    ·refine ⟨_, rfl, fun Q_ hQ_ => ?_⟩
     refine Reg.pass rfl rfl rfl rfl (Reg.nilK [3, 4, 25] rfl (hQ_ 6 _ _ _ rfl (.inl rfl) rfl (fun w_ e_ => ?_)))
     exact ⟨hI231.ext e_, hA_.trans (Adv.of_ext e_)⟩
    refine ⟨_, rfl, fun Q_ hQ_ => ?_⟩
    refine Reg.pass rfl rfl rfl rfl (Reg.nilK [4, 6, 25] rfl (hQ_ 8 _ _ _ rfl (.inl rfl) rfl (fun w_ e_ => ?_)))
    exact ⟨hI231.ext e_, hA_.trans (Adv.of_ext e_)⟩
   ·intro w232 ex_
    have hI233 := (Hp.start (Mu := []) hI37.mlt).ext ex_
    refine .inr ⟨List.cons_ne_nil _ _, [12, 16], by kernel_rfl, AllL.cons ?_ (AllL.cons ?_ (AllL.nil))⟩
    ·refine ⟨_, rfl, fun Q_ hQ_ => ?_⟩
     refine Reg.pass rfl rfl rfl rfl (Reg.nilK [4, 16, 25] rfl (hQ_ 9 _ _ _ rfl (.inr hI233.kp) rfl (fun w_ e_ => ?_)))
     exact ex_.trans e_
    refine ⟨_, rfl, fun Q_ hQ_ => ?_⟩
    have hI234 := hI37.join hI233
    refine y_st 0 hI234 rfl rfl rfl rfl Tryd.sizeOf61 rfl rfl (on8 rfl rfl rfl rfl rfl rfl rfl rfl) ?_
    intro w235 hI236 x237
    refine Reg.nilK [3, 4, 25] rfl (hQ_ 10 _ _ _ rfl (.inl rfl) rfl (fun w_ e_ => ?_))
    exact ⟨hI236.ext e_, ((Adv.of_ext ex_).trans x237).trans (Adv.of_ext e_)⟩
   ·intro w238 ex_
    have hI239 := (Hp.start (Mu := []) hI37.mlt).ext ex_
    refine .inr ⟨List.cons_ne_nil _ _, [11, 13, 16], by kernel_rfl, AllL.cons ?_ (AllL.cons ?_ (AllL.cons ?_ (AllL.nil)))⟩
    ·refine ⟨_, rfl, fun Q_ hQ_ => ?_⟩
     refine Reg.pass rfl rfl rfl rfl (Reg.nilK [4, 16, 25] rfl (hQ_ 9 _ _ _ rfl (.inr hI239.kp) rfl (fun w_ e_ => ?_)))
     exact ex_.trans e_
    ·refine ⟨_, rfl, fun Q_ hQ_ => ?_⟩
     refine Reg.pass rfl rfl rfl rfl (Reg.nilK [4, 16, 25] rfl (hQ_ 11 _ _ _ rfl (.inr hI239.kp) rfl (fun w_ e_ => ?_)))
     exact ex_.trans e_
    refine ⟨_, rfl, fun Q_ hQ_ => ?_⟩
    have hI240 := hI37.join hI239
    refine y_st 0 hI240 rfl rfl rfl rfl Tryd.sizeOf61 rfl rfl (on8 rfl rfl rfl rfl rfl rfl rfl rfl) ?_
    intro w241 hI242 x243
    refine Reg.nilK [4, 25] rfl (hQ_ 12 _ _ _ rfl (.inl rfl) rfl (fun w_ e_ => ?_))
    exact ⟨hI242.ext e_, ((Adv.of_ext ex_).trans x243).trans (Adv.of_ext e_)⟩
   ·rintro w244 ⟨hI245, hA_⟩
    refine .inr ⟨List.cons_ne_nil _ _, [11, 12], by kernel_rfl, AllL.cons ?_ (AllL.cons ?_ (AllL.nil))⟩
    ·refine ⟨_, rfl, fun Q_ hQ_ => ?_⟩
     refine Reg.pass rfl rfl rfl rfl (Reg.nilK [3, 4, 25] rfl (hQ_ 10 _ _ _ rfl (.inl rfl) rfl (fun w_ e_ => ?_)))
     exact ⟨hI245.ext e_, hA_.trans (Adv.of_ext e_)⟩
    refine ⟨_, rfl, fun Q_ hQ_ => ?_⟩
    refine Reg.pass rfl rfl rfl rfl (Reg.nilK [4, 25] rfl (hQ_ 12 _ _ _ rfl (.inl rfl) rfl (fun w_ e_ => ?_)))
    exact ⟨hI245.ext e_, hA_.trans (Adv.of_ext e_)⟩
   ·intro w246 ex_
    have hI247 := (Hp.start (Mu := []) hI37.mlt).ext ex_
    refine .inr ⟨List.cons_ne_nil _ _, [10, 16], by kernel_rfl, AllL.cons ?_ (AllL.cons ?_ (AllL.nil))⟩
    ·refine ⟨_, rfl, fun Q_ hQ_ => ?_⟩
     refine Reg.pass rfl rfl rfl rfl (Reg.nilK [4, 16, 25] rfl (hQ_ 11 _ _ _ rfl (.inr hI247.kp) rfl (fun w_ e_ => ?_)))
     exact ex_.trans e_
    refine ⟨_, rfl, fun Q_ hQ_ => ?_⟩
    have hI248 := hI37.join hI247
    refine y_st 0 hI248 rfl rfl rfl rfl Tryd.sizeOf61 rfl rfl (on8 rfl rfl rfl rfl rfl rfl rfl rfl) ?_
    intro w249 hI250 x251
    refine Reg.nilK [4, 6, 25] rfl (hQ_ 13 _ _ _ rfl (.inl rfl) rfl (fun w_ e_ => ?_))
    exact ⟨hI250.ext e_, ((Adv.of_ext ex_).trans x251).trans (Adv.of_ext e_)⟩
   ·rintro w252 ⟨hI253, hA_⟩
    refine .inr ⟨List.cons_ne_nil _ _, [10, 13], by kernel_rfl, AllL.cons ?_ (AllL.cons ?_ (AllL.nil))⟩
    ·refine ⟨_, rfl, fun Q_ hQ_ => ?_⟩
     refine Reg.pass rfl rfl rfl rfl (Reg.nilK [4, 25] rfl (hQ_ 12 _ _ _ rfl (.inl rfl) rfl (fun w_ e_ => ?_)))
     exact ⟨hI253.ext e_, hA_.trans (Adv.of_ext e_)⟩
    refine ⟨_, rfl, fun Q_ hQ_ => ?_⟩
    refine Reg.pass rfl rfl rfl rfl (Reg.nilK [4, 6, 25] rfl (hQ_ 13 _ _ _ rfl (.inl rfl) rfl (fun w_ e_ => ?_)))
    exact ⟨hI253.ext e_, hA_.trans (Adv.of_ext e_)⟩
   ·intro w254 ex_
    have hI255 := (Hp.start (Mu := []) hI37.mlt).ext ex_
    refine .inr ⟨List.cons_ne_nil _ _, [13, 16], by kernel_rfl, AllL.cons ?_ (AllL.cons ?_ (AllL.nil))⟩
    ·refine ⟨_, rfl, fun Q_ hQ_ => ?_⟩
     refine Reg.pass rfl rfl rfl rfl (Reg.nilK [4, 16, 25] rfl (hQ_ 14 _ _ _ rfl (.inr hI255.kp) rfl (fun w_ e_ => ?_)))
     exact ex_.trans e_
    refine ⟨_, rfl, fun Q_ hQ_ => ?_⟩
    have hI256 := hI37.join hI255
    refine y_st 0 hI256 rfl rfl rfl rfl Tryd.sizeOf61 rfl rfl (on8 rfl rfl rfl rfl rfl rfl rfl rfl) ?_
    intro w257 hI258 x259
    refine Reg.nilK [4, 25] rfl (hQ_ 15 _ _ _ rfl (.inl rfl) rfl (fun w_ e_ => ?_))
    exact ⟨hI258.ext e_, ((Adv.of_ext ex_).trans x259).trans (Adv.of_ext e_)⟩
   ·rintro w260 ⟨hI261, hA_⟩
    refine .inr ⟨List.cons_ne_nil _ _, [12], by kernel_rfl, AllL.cons ?_ (AllL.nil)⟩
    refine ⟨_, rfl, fun Q_ hQ_ => ?_⟩
    refine Reg.pass rfl rfl rfl rfl (Reg.nilK [4, 25] rfl (hQ_ 15 _ _ _ rfl (.inl rfl) rfl (fun w_ e_ => ?_)))
    exact ⟨hI261.ext e_, hA_.trans (Adv.of_ext e_)⟩
   ·intro w262 ex_
    have hI263 := (Hp.start (Mu := []) hI37.mlt).ext ex_
    refine .inr ⟨List.cons_ne_nil _ _, [11, 16], by kernel_rfl, AllL.cons ?_ (AllL.cons ?_ (AllL.nil))⟩
    ·refine ⟨_, rfl, fun Q_ hQ_ => ?_⟩
     refine Reg.pass rfl rfl rfl rfl (Reg.nilK [4, 16, 25] rfl (hQ_ 14 _ _ _ rfl (.inr hI263.kp) rfl (fun w_ e_ => ?_)))
     exact ex_.trans e_
    refine ⟨_, rfl, fun Q_ hQ_ => ?_⟩
    have hI264 := hI37.join hI263
    refine y_st 0 hI264 rfl rfl rfl rfl Tryd.sizeOf61 rfl rfl (on8 rfl rfl rfl rfl rfl rfl rfl rfl) ?_
    intro w265 hI266 x267
    refine Reg.nilK [4, 25] rfl (hQ_ 16 _ _ _ rfl (.inl rfl) rfl (fun w_ e_ => ?_))
    exact ⟨hI266.ext e_, ((Adv.of_ext ex_).trans x267).trans (Adv.of_ext e_)⟩
   ·rintro w268 ⟨hI269, hA_⟩
    refine .inr ⟨List.cons_ne_nil _ _, [11, 13], by kernel_rfl, AllL.cons ?_ (AllL.cons ?_ (AllL.nil))⟩
    ·refine ⟨_, rfl, fun Q_ hQ_ => ?_⟩
     refine Reg.pass rfl rfl rfl rfl (Reg.nilK [4, 25] rfl (hQ_ 15 _ _ _ rfl (.inl rfl) rfl (fun w_ e_ => ?_)))
     exact ⟨hI269.ext e_, hA_.trans (Adv.of_ext e_)⟩
    refine ⟨_, rfl, fun Q_ hQ_ => ?_⟩
    refine Reg.pass rfl rfl rfl rfl (Reg.nilK [4, 25] rfl (hQ_ 16 _ _ _ rfl (.inl rfl) rfl (fun w_ e_ => ?_)))
    exact ⟨hI269.ext e_, hA_.trans (Adv.of_ext e_)⟩
   ·rintro w270 ⟨hI271, hA_⟩
    refine .inr ⟨List.cons_ne_nil _ _, [10], by kernel_rfl, AllL.cons ?_ (AllL.nil)⟩
    refine ⟨_, rfl, fun Q_ hQ_ => ?_⟩
    refine Reg.pass rfl rfl rfl rfl (Reg.nilK [4, 25] rfl (hQ_ 16 _ _ _ rfl (.inl rfl) rfl (fun w_ e_ => ?_)))
    exact ⟨hI271.ext e_, hA_.trans (Adv.of_ext e_)⟩
   ·intro w272 ex_
    have hI273 := (Hp.start (Mu := []) hI37.mlt).ext ex_
    refine .inr ⟨List.cons_ne_nil _ _, [14, 16], by kernel_rfl, AllL.cons ?_ (AllL.cons ?_ (AllL.nil))⟩
    ·refine ⟨_, rfl, fun Q_ hQ_ => ?_⟩
     refine Reg.pass rfl rfl rfl rfl (Reg.nilK [4, 16, 25] rfl (hQ_ 17 _ _ _ rfl (.inr hI273.kp) rfl (fun w_ e_ => ?_)))
     exact ex_.trans e_
    refine ⟨_, rfl, fun Q_ hQ_ => ?_⟩
    have hI274 := hI37.join hI273
    refine y_st 0 hI274 rfl rfl rfl rfl Tryd.sizeOf61 rfl rfl (on8 rfl rfl rfl rfl rfl rfl rfl rfl) ?_
    intro w275 hI276 x277
    refine Reg.nilK [4, 25] rfl (hQ_ 18 _ _ _ rfl (.inl rfl) rfl (fun w_ e_ => ?_))
    exact ⟨hI276.ext e_, ((Adv.of_ext ex_).trans x277).trans (Adv.of_ext e_)⟩
   ·rintro w278 ⟨hI279, hA_⟩
    refine .inr ⟨List.cons_ne_nil _ _, [13], by kernel_rfl, AllL.cons ?_ (AllL.nil)⟩
    refine ⟨_, rfl, fun Q_ hQ_ => ?_⟩
    refine Reg.pass rfl rfl rfl rfl (Reg.nilK [4, 25] rfl (hQ_ 18 _ _ _ rfl (.inl rfl) rfl (fun w_ e_ => ?_)))
    exact ⟨hI279.ext e_, hA_.trans (Adv.of_ext e_)⟩
   ·rintro w280 ⟨hI281, hA_⟩
    refine .inr ⟨List.cons_ne_nil _ _, [11], by kernel_rfl, AllL.cons ?_ (AllL.nil)⟩
    refine ⟨_, rfl, fun Q_ hQ_ => ?_⟩
    refine Reg.pass rfl rfl rfl rfl (Reg.nilK [4, 25] rfl (hQ_ 18 _ _ _ rfl (.inl rfl) rfl (fun w_ e_ => ?_)))
    exact ⟨hI281.ext e_, hA_.trans (Adv.of_ext e_)⟩
   ·intro w282 ex_
    have hI283 := (Hp.start (Mu := []) hI37.mlt).ext ex_
    refine .inr ⟨List.cons_ne_nil _ _, [15, 16], by kernel_rfl, AllL.cons ?_ (AllL.cons ?_ (AllL.nil))⟩
    ·refine ⟨_, rfl, fun Q_ hQ_ => ?_⟩
     refine s_pkF rfl rfl rfl (Reg.nilK [4, 16, 31] rfl (hQ_ 19 _ _ _ rfl (.inr hI283.kp) rfl (fun w_ e_ => ?_)))
     exact ex_.trans e_
    refine ⟨_, rfl, fun Q_ hQ_ => ?_⟩
    have hI284 := hI37.join hI283
    refine y_st 0 hI284 rfl rfl rfl rfl Tryd.sizeOf61 rfl rfl (on8 rfl rfl rfl rfl rfl rfl rfl rfl) ?_
    intro w285 hI286 x287
    refine Reg.nilK [4, 25] rfl (hQ_ 20 _ _ _ rfl (.inl rfl) rfl (fun w_ e_ => ?_))
    exact ⟨hI286.ext e_, ((Adv.of_ext ex_).trans x287).trans (Adv.of_ext e_)⟩
   ·rintro w288 ⟨hI289, hA_⟩
    refine .inr ⟨List.cons_ne_nil _ _, [14], by kernel_rfl, AllL.cons ?_ (AllL.nil)⟩
    refine ⟨_, rfl, fun Q_ hQ_ => ?_⟩
    refine Reg.pass rfl rfl rfl rfl (Reg.nilK [4, 25] rfl (hQ_ 20 _ _ _ rfl (.inl rfl) rfl (fun w_ e_ => ?_)))
    exact ⟨hI289.ext e_, hA_.trans (Adv.of_ext e_)⟩
   ·intro w290 ex_
    have hI291 := (Hp.start (Mu := []) hI37.mlt).ext ex_
    refine .inr ⟨List.cons_ne_nil _ _, [16], by kernel_rfl, AllL.cons ?_ (AllL.nil)⟩
    refine ⟨_, rfl, fun Q_ hQ_ => ?_⟩
    have hI292 := hI37.join hI291
    refine y_st 0 hI292 rfl rfl rfl rfl Tryd.sizeOf61 rfl rfl (on8 rfl rfl rfl rfl rfl rfl rfl rfl) ?_
    intro w293 hI294 x295
    refine Reg.nilK [4, 31] rfl (hQ_ 21 _ _ _ rfl (.inl rfl) rfl (fun w_ e_ => ?_))
    exact ⟨hI294.ext e_, ((Adv.of_ext ex_).trans x295).trans (Adv.of_ext e_)⟩
   ·rintro w296 ⟨hI297, hA_⟩
    refine .inr ⟨List.cons_ne_nil _ _, [15], by kernel_rfl, AllL.cons ?_ (AllL.nil)⟩
    refine ⟨_, rfl, fun Q_ hQ_ => ?_⟩
    refine s_pkF rfl rfl rfl (Reg.nilK [4, 31] rfl (hQ_ 21 _ _ _ rfl (.inl rfl) rfl (fun w_ e_ => ?_)))
    exact ⟨hI297.ext e_, hA_.trans (Adv.of_ext e_)⟩
   ·rintro w298 ⟨hI299, hA_⟩
    refine .inr ⟨List.cons_ne_nil _ _, [17], by kernel_rfl, AllL.cons ?_ (AllL.nil)⟩
    refine ⟨_, rfl, fun Q_ hQ_ => ?_⟩
    refine s_as rfl rfl (Reg.nilK [4, 5] rfl (hQ_ 22 _ _ _ rfl (.inl rfl) rfl (fun w_ e_ => ?_)))
    exact ⟨hI299.ext e_, hA_.trans (Adv.of_ext e_)⟩
   rintro w300 ⟨hI301, hA_⟩
   refine .inl ⟨rfl, ?_⟩
   obtain rfl := Option.some.inj h40
   refine ⟨rfl, (false, y17.id, y17.source, y17.account, y17.made, y17.about, y17.kind, y17.cents, y17.of_), ⟨hI301, hA_, r22, r23, r24, r25, r26, r27, r28, r29, rfl⟩, sb2 rfl rfl⟩
  replace h40 := cdF hg61 h40
  iterate 5 refine Reg.pass rfl rfl rfl rfl ?_
  refine s_pkF rfl rfl rfl (s_mv rfl rfl (Reg.nilX ⟨rfl, rfl, rfl, ?_⟩))
  intro w302 e303
  have hI304 := (Hp.start (Mu := []) hI37.mlt).ext e303
  refine SeaWalk.dag [([10, 11, 12, 13, 14, 15, 16, 17], _, fun w_ => Ext w34 w_), ([11, 12, 13, 14, 15, 16, 17], [(3, vp b7 0), (4, vp b13 0), (16, Value.agg (List.toArray (vR y17))), (25, Value.bool false)], fun w_ => Ext w34 w_), ([10, 11, 13, 14, 15, 16, 17], [(4, vp b13 0), (6, vp b30 0), (16, Value.agg (List.toArray (vR y17))), (25, Value.bool false)], fun w_ => Ext w34 w_), ([10, 11, 12, 13, 14, 15, 17], [(3, vp b7 0), (4, vp b13 0), (6, vp b30 0), (25, Value.bool false)], fun w_ => Hp w [] M [rowR 61 b13 (vR y17)] w_ ∧ Adv (mm [rowR 61 b13 zR] M) (mm [rowR 61 b13 (vR y17)] M) w34 w_), ([12, 13, 14, 15, 16, 17], [(3, vp b7 0), (4, vp b13 0), (16, Value.agg (List.toArray (vR y17))), (25, Value.bool false)], fun w_ => Ext w34 w_), ([11, 13, 14, 15, 16, 17], [(4, vp b13 0), (16, Value.agg (List.toArray (vR y17))), (25, Value.bool false)], fun w_ => Ext w34 w_), ([11, 12, 13, 14, 15, 17], [(3, vp b7 0), (4, vp b13 0), (25, Value.bool false)], fun w_ => Hp w [] M [rowR 61 b13 (vR y17)] w_ ∧ Adv (mm [rowR 61 b13 zR] M) (mm [rowR 61 b13 (vR y17)] M) w34 w_), ([10, 11, 14, 15, 16, 17], [(4, vp b13 0), (6, vp b30 0), (16, Value.agg (List.toArray (vR y17))), (25, Value.bool false)], fun w_ => Ext w34 w_), ([10, 11, 13, 14, 15, 17], [(4, vp b13 0), (6, vp b30 0), (25, Value.bool false)], fun w_ => Hp w [] M [rowR 61 b13 (vR y17)] w_ ∧ Adv (mm [rowR 61 b13 zR] M) (mm [rowR 61 b13 (vR y17)] M) w34 w_), ([13, 14, 15, 16, 17], [(4, vp b13 0), (16, Value.agg (List.toArray (vR y17))), (25, Value.bool false)], fun w_ => Ext w34 w_), ([12, 13, 14, 15, 17], [(3, vp b7 0), (4, vp b13 0), (25, Value.bool false)], fun w_ => Hp w [] M [rowR 61 b13 (vR y17)] w_ ∧ Adv (mm [rowR 61 b13 zR] M) (mm [rowR 61 b13 (vR y17)] M) w34 w_), ([11, 14, 15, 16, 17], [(4, vp b13 0), (16, Value.agg (List.toArray (vR y17))), (25, Value.bool false)], fun w_ => Ext w34 w_), ([11, 13, 14, 15, 17], [(4, vp b13 0), (25, Value.bool false)], fun w_ => Hp w [] M [rowR 61 b13 (vR y17)] w_ ∧ Adv (mm [rowR 61 b13 zR] M) (mm [rowR 61 b13 (vR y17)] M) w34 w_), ([10, 11, 14, 15, 17], [(4, vp b13 0), (6, vp b30 0), (25, Value.bool false)], fun w_ => Hp w [] M [rowR 61 b13 (vR y17)] w_ ∧ Adv (mm [rowR 61 b13 zR] M) (mm [rowR 61 b13 (vR y17)] M) w34 w_), ([14, 15, 16, 17], [(4, vp b13 0), (16, Value.agg (List.toArray (vR y17))), (25, Value.bool false)], fun w_ => Ext w34 w_), ([13, 14, 15, 17], [(4, vp b13 0), (25, Value.bool false)], fun w_ => Hp w [] M [rowR 61 b13 (vR y17)] w_ ∧ Adv (mm [rowR 61 b13 zR] M) (mm [rowR 61 b13 (vR y17)] M) w34 w_), ([11, 14, 15, 17], [(4, vp b13 0), (25, Value.bool false)], fun w_ => Hp w [] M [rowR 61 b13 (vR y17)] w_ ∧ Adv (mm [rowR 61 b13 zR] M) (mm [rowR 61 b13 (vR y17)] M) w34 w_), ([15, 16, 17], [(4, vp b13 0), (16, Value.agg (List.toArray (vR y17))), (25, Value.bool false)], fun w_ => Ext w34 w_), ([14, 15, 17], [(4, vp b13 0), (25, Value.bool false)], fun w_ => Hp w [] M [rowR 61 b13 (vR y17)] w_ ∧ Adv (mm [rowR 61 b13 zR] M) (mm [rowR 61 b13 (vR y17)] M) w34 w_), ([16, 17], [(4, vp b13 0), (16, Value.agg (List.toArray (vR y17))), (31, Value.bool false)], fun w_ => Ext w34 w_), ([15, 17], [(4, vp b13 0), (25, Value.bool false)], fun w_ => Hp w [] M [rowR 61 b13 (vR y17)] w_ ∧ Adv (mm [rowR 61 b13 zR] M) (mm [rowR 61 b13 (vR y17)] M) w34 w_), ([17], [(4, vp b13 0), (31, Value.bool false)], fun w_ => Hp w [] M [rowR 61 b13 (vR y17)] w_ ∧ Adv (mm [rowR 61 b13 zR] M) (mm [rowR 61 b13 (vR y17)] M) w34 w_), ([], [(4, vp b13 0), (5, Value.bool false)], fun w_ => Hp w [] M [rowR 61 b13 (vR y17)] w_ ∧ Adv (mm [rowR 61 b13 zR] M) (mm [rowR 61 b13 (vR y17)] M) w34 w_)] (AllS.cons ?_ (AllS.cons ?_ (AllS.cons ?_ (AllS.cons ?_ (AllS.cons ?_ (AllS.cons ?_ (AllS.cons ?_ (AllS.cons ?_ (AllS.cons ?_ (AllS.cons ?_ (AllS.cons ?_ (AllS.cons ?_ (AllS.cons ?_ (AllS.cons ?_ (AllS.cons ?_ (AllS.cons ?_ (AllS.cons ?_ (AllS.cons ?_ (AllS.cons ?_ (AllS.cons ?_ (AllS.cons ?_ (AllS.cons ?_ (AllS.cons ?_ (AllS.nil)))))))))))))))))))))))) _ _ _ _ 0 _ rfl rfl hI304.kp
  ·intro w333 ex_
   have hI334 := (Hp.start (Mu := []) hI37.mlt).ext ex_
   refine .inr ⟨List.cons_ne_nil _ _, [10, 12, 16], by kernel_rfl, AllL.cons ?_ (AllL.cons ?_ (AllL.cons ?_ (AllL.nil)))⟩
   ·refine ⟨_, rfl, fun Q_ hQ_ => ?_⟩
    refine Reg.pass rfl rfl rfl rfl (Reg.nilK [3, 4, 16, 25] rfl (hQ_ 1 _ _ _ rfl (.inr hI334.kp) rfl (fun w_ e_ => ?_)))
    exact ex_.trans e_
   ·refine ⟨_, rfl, fun Q_ hQ_ => ?_⟩
    refine Reg.pass rfl rfl rfl rfl (Reg.nilK [4, 6, 16, 25] rfl (hQ_ 2 _ _ _ rfl (.inr hI334.kp) rfl (fun w_ e_ => ?_)))
    exact ex_.trans e_
   refine ⟨_, rfl, fun Q_ hQ_ => ?_⟩
   have hI335 := hI37.join hI334
   refine y_st 0 hI335 rfl rfl rfl rfl Tryd.sizeOf61 rfl rfl (on8 rfl rfl rfl rfl rfl rfl rfl rfl) ?_
   intro w336 hI337 x338
   refine Reg.nilK [3, 4, 6, 25] rfl (hQ_ 3 _ _ _ rfl (.inl rfl) rfl (fun w_ e_ => ?_))
   exact ⟨hI337.ext e_, ((Adv.of_ext ex_).trans x338).trans (Adv.of_ext e_)⟩
  ·intro w339 ex_
   have hI340 := (Hp.start (Mu := []) hI37.mlt).ext ex_
   refine .inr ⟨List.cons_ne_nil _ _, [11, 12, 16], by kernel_rfl, AllL.cons ?_ (AllL.cons ?_ (AllL.cons ?_ (AllL.nil)))⟩
   ·refine ⟨_, rfl, fun Q_ hQ_ => ?_⟩
    refine Reg.pass rfl rfl rfl rfl (Reg.nilK [3, 4, 16, 25] rfl (hQ_ 4 _ _ _ rfl (.inr hI340.kp) rfl (fun w_ e_ => ?_)))
    exact ex_.trans e_
   ·refine ⟨_, rfl, fun Q_ hQ_ => ?_⟩
    refine Reg.pass rfl rfl rfl rfl (Reg.nilK [4, 16, 25] rfl (hQ_ 5 _ _ _ rfl (.inr hI340.kp) rfl (fun w_ e_ => ?_)))
    exact ex_.trans e_
   refine ⟨_, rfl, fun Q_ hQ_ => ?_⟩
   have hI341 := hI37.join hI340
   refine y_st 0 hI341 rfl rfl rfl rfl Tryd.sizeOf61 rfl rfl (on8 rfl rfl rfl rfl rfl rfl rfl rfl) ?_
   intro w342 hI343 x344
   refine Reg.nilK [3, 4, 25] rfl (hQ_ 6 _ _ _ rfl (.inl rfl) rfl (fun w_ e_ => ?_))
   exact ⟨hI343.ext e_, ((Adv.of_ext ex_).trans x344).trans (Adv.of_ext e_)⟩
  ·intro w345 ex_
   have hI346 := (Hp.start (Mu := []) hI37.mlt).ext ex_
   refine .inr ⟨List.cons_ne_nil _ _, [10, 13, 16], by kernel_rfl, AllL.cons ?_ (AllL.cons ?_ (AllL.cons ?_ (AllL.nil)))⟩
   ·refine ⟨_, rfl, fun Q_ hQ_ => ?_⟩
    refine Reg.pass rfl rfl rfl rfl (Reg.nilK [4, 16, 25] rfl (hQ_ 5 _ _ _ rfl (.inr hI346.kp) rfl (fun w_ e_ => ?_)))
    exact ex_.trans e_
   ·refine ⟨_, rfl, fun Q_ hQ_ => ?_⟩
    refine Reg.pass rfl rfl rfl rfl (Reg.nilK [4, 6, 16, 25] rfl (hQ_ 7 _ _ _ rfl (.inr hI346.kp) rfl (fun w_ e_ => ?_)))
    exact ex_.trans e_
   refine ⟨_, rfl, fun Q_ hQ_ => ?_⟩
   have hI347 := hI37.join hI346
   refine y_st 0 hI347 rfl rfl rfl rfl Tryd.sizeOf61 rfl rfl (on8 rfl rfl rfl rfl rfl rfl rfl rfl) ?_
   intro w348 hI349 x350
   refine Reg.nilK [4, 6, 25] rfl (hQ_ 8 _ _ _ rfl (.inl rfl) rfl (fun w_ e_ => ?_))
   exact ⟨hI349.ext e_, ((Adv.of_ext ex_).trans x350).trans (Adv.of_ext e_)⟩
  ·rintro w351 ⟨hI352, hA_⟩
   refine .inr ⟨List.cons_ne_nil _ _, [10, 12], by kernel_rfl, AllL.cons ?_ (AllL.cons ?_ (AllL.nil))⟩
   ·refine ⟨_, rfl, fun Q_ hQ_ => ?_⟩
    refine Reg.pass rfl rfl rfl rfl (Reg.nilK [3, 4, 25] rfl (hQ_ 6 _ _ _ rfl (.inl rfl) rfl (fun w_ e_ => ?_)))
    exact ⟨hI352.ext e_, hA_.trans (Adv.of_ext e_)⟩
   refine ⟨_, rfl, fun Q_ hQ_ => ?_⟩
   refine Reg.pass rfl rfl rfl rfl (Reg.nilK [4, 6, 25] rfl (hQ_ 8 _ _ _ rfl (.inl rfl) rfl (fun w_ e_ => ?_)))
   exact ⟨hI352.ext e_, hA_.trans (Adv.of_ext e_)⟩
  ·intro w353 ex_
   have hI354 := (Hp.start (Mu := []) hI37.mlt).ext ex_
   refine .inr ⟨List.cons_ne_nil _ _, [12, 16], by kernel_rfl, AllL.cons ?_ (AllL.cons ?_ (AllL.nil))⟩
   ·refine ⟨_, rfl, fun Q_ hQ_ => ?_⟩
    refine Reg.pass rfl rfl rfl rfl (Reg.nilK [4, 16, 25] rfl (hQ_ 9 _ _ _ rfl (.inr hI354.kp) rfl (fun w_ e_ => ?_)))
    exact ex_.trans e_
   refine ⟨_, rfl, fun Q_ hQ_ => ?_⟩
   have hI355 := hI37.join hI354
   refine y_st 0 hI355 rfl rfl rfl rfl Tryd.sizeOf61 rfl rfl (on8 rfl rfl rfl rfl rfl rfl rfl rfl) ?_
   intro w356 hI357 x358
   refine Reg.nilK [3, 4, 25] rfl (hQ_ 10 _ _ _ rfl (.inl rfl) rfl (fun w_ e_ => ?_))
   exact ⟨hI357.ext e_, ((Adv.of_ext ex_).trans x358).trans (Adv.of_ext e_)⟩
  ·intro w359 ex_
   have hI360 := (Hp.start (Mu := []) hI37.mlt).ext ex_
   refine .inr ⟨List.cons_ne_nil _ _, [11, 13, 16], by kernel_rfl, AllL.cons ?_ (AllL.cons ?_ (AllL.cons ?_ (AllL.nil)))⟩
   ·refine ⟨_, rfl, fun Q_ hQ_ => ?_⟩
    refine Reg.pass rfl rfl rfl rfl (Reg.nilK [4, 16, 25] rfl (hQ_ 9 _ _ _ rfl (.inr hI360.kp) rfl (fun w_ e_ => ?_)))
    exact ex_.trans e_
   ·refine ⟨_, rfl, fun Q_ hQ_ => ?_⟩
    refine Reg.pass rfl rfl rfl rfl (Reg.nilK [4, 16, 25] rfl (hQ_ 11 _ _ _ rfl (.inr hI360.kp) rfl (fun w_ e_ => ?_)))
    exact ex_.trans e_
   refine ⟨_, rfl, fun Q_ hQ_ => ?_⟩
   have hI361 := hI37.join hI360
   refine y_st 0 hI361 rfl rfl rfl rfl Tryd.sizeOf61 rfl rfl (on8 rfl rfl rfl rfl rfl rfl rfl rfl) ?_
   intro w362 hI363 x364
   refine Reg.nilK [4, 25] rfl (hQ_ 12 _ _ _ rfl (.inl rfl) rfl (fun w_ e_ => ?_))
   exact ⟨hI363.ext e_, ((Adv.of_ext ex_).trans x364).trans (Adv.of_ext e_)⟩
  ·rintro w365 ⟨hI366, hA_⟩
   refine .inr ⟨List.cons_ne_nil _ _, [11, 12], by kernel_rfl, AllL.cons ?_ (AllL.cons ?_ (AllL.nil))⟩
   ·refine ⟨_, rfl, fun Q_ hQ_ => ?_⟩
    refine Reg.pass rfl rfl rfl rfl (Reg.nilK [3, 4, 25] rfl (hQ_ 10 _ _ _ rfl (.inl rfl) rfl (fun w_ e_ => ?_)))
    exact ⟨hI366.ext e_, hA_.trans (Adv.of_ext e_)⟩
   refine ⟨_, rfl, fun Q_ hQ_ => ?_⟩
   refine Reg.pass rfl rfl rfl rfl (Reg.nilK [4, 25] rfl (hQ_ 12 _ _ _ rfl (.inl rfl) rfl (fun w_ e_ => ?_)))
   exact ⟨hI366.ext e_, hA_.trans (Adv.of_ext e_)⟩
  ·intro w367 ex_
   have hI368 := (Hp.start (Mu := []) hI37.mlt).ext ex_
   refine .inr ⟨List.cons_ne_nil _ _, [10, 16], by kernel_rfl, AllL.cons ?_ (AllL.cons ?_ (AllL.nil))⟩
   ·refine ⟨_, rfl, fun Q_ hQ_ => ?_⟩
    refine Reg.pass rfl rfl rfl rfl (Reg.nilK [4, 16, 25] rfl (hQ_ 11 _ _ _ rfl (.inr hI368.kp) rfl (fun w_ e_ => ?_)))
    exact ex_.trans e_
   refine ⟨_, rfl, fun Q_ hQ_ => ?_⟩
   have hI369 := hI37.join hI368
   refine y_st 0 hI369 rfl rfl rfl rfl Tryd.sizeOf61 rfl rfl (on8 rfl rfl rfl rfl rfl rfl rfl rfl) ?_
   intro w370 hI371 x372
   refine Reg.nilK [4, 6, 25] rfl (hQ_ 13 _ _ _ rfl (.inl rfl) rfl (fun w_ e_ => ?_))
   exact ⟨hI371.ext e_, ((Adv.of_ext ex_).trans x372).trans (Adv.of_ext e_)⟩
  ·rintro w373 ⟨hI374, hA_⟩
   refine .inr ⟨List.cons_ne_nil _ _, [10, 13], by kernel_rfl, AllL.cons ?_ (AllL.cons ?_ (AllL.nil))⟩
   ·refine ⟨_, rfl, fun Q_ hQ_ => ?_⟩
    refine Reg.pass rfl rfl rfl rfl (Reg.nilK [4, 25] rfl (hQ_ 12 _ _ _ rfl (.inl rfl) rfl (fun w_ e_ => ?_)))
    exact ⟨hI374.ext e_, hA_.trans (Adv.of_ext e_)⟩
   refine ⟨_, rfl, fun Q_ hQ_ => ?_⟩
   refine Reg.pass rfl rfl rfl rfl (Reg.nilK [4, 6, 25] rfl (hQ_ 13 _ _ _ rfl (.inl rfl) rfl (fun w_ e_ => ?_)))
   exact ⟨hI374.ext e_, hA_.trans (Adv.of_ext e_)⟩
  ·intro w375 ex_
   have hI376 := (Hp.start (Mu := []) hI37.mlt).ext ex_
   refine .inr ⟨List.cons_ne_nil _ _, [13, 16], by kernel_rfl, AllL.cons ?_ (AllL.cons ?_ (AllL.nil))⟩
   ·refine ⟨_, rfl, fun Q_ hQ_ => ?_⟩
    refine Reg.pass rfl rfl rfl rfl (Reg.nilK [4, 16, 25] rfl (hQ_ 14 _ _ _ rfl (.inr hI376.kp) rfl (fun w_ e_ => ?_)))
    exact ex_.trans e_
   refine ⟨_, rfl, fun Q_ hQ_ => ?_⟩
   have hI377 := hI37.join hI376
   refine y_st 0 hI377 rfl rfl rfl rfl Tryd.sizeOf61 rfl rfl (on8 rfl rfl rfl rfl rfl rfl rfl rfl) ?_
   intro w378 hI379 x380
   refine Reg.nilK [4, 25] rfl (hQ_ 15 _ _ _ rfl (.inl rfl) rfl (fun w_ e_ => ?_))
   exact ⟨hI379.ext e_, ((Adv.of_ext ex_).trans x380).trans (Adv.of_ext e_)⟩
  ·rintro w381 ⟨hI382, hA_⟩
   refine .inr ⟨List.cons_ne_nil _ _, [12], by kernel_rfl, AllL.cons ?_ (AllL.nil)⟩
   refine ⟨_, rfl, fun Q_ hQ_ => ?_⟩
   refine Reg.pass rfl rfl rfl rfl (Reg.nilK [4, 25] rfl (hQ_ 15 _ _ _ rfl (.inl rfl) rfl (fun w_ e_ => ?_)))
   exact ⟨hI382.ext e_, hA_.trans (Adv.of_ext e_)⟩
  ·intro w383 ex_
   have hI384 := (Hp.start (Mu := []) hI37.mlt).ext ex_
   refine .inr ⟨List.cons_ne_nil _ _, [11, 16], by kernel_rfl, AllL.cons ?_ (AllL.cons ?_ (AllL.nil))⟩
   ·refine ⟨_, rfl, fun Q_ hQ_ => ?_⟩
    refine Reg.pass rfl rfl rfl rfl (Reg.nilK [4, 16, 25] rfl (hQ_ 14 _ _ _ rfl (.inr hI384.kp) rfl (fun w_ e_ => ?_)))
    exact ex_.trans e_
   refine ⟨_, rfl, fun Q_ hQ_ => ?_⟩
   have hI385 := hI37.join hI384
   refine y_st 0 hI385 rfl rfl rfl rfl Tryd.sizeOf61 rfl rfl (on8 rfl rfl rfl rfl rfl rfl rfl rfl) ?_
   intro w386 hI387 x388
   refine Reg.nilK [4, 25] rfl (hQ_ 16 _ _ _ rfl (.inl rfl) rfl (fun w_ e_ => ?_))
   exact ⟨hI387.ext e_, ((Adv.of_ext ex_).trans x388).trans (Adv.of_ext e_)⟩
  ·rintro w389 ⟨hI390, hA_⟩
   refine .inr ⟨List.cons_ne_nil _ _, [11, 13], by kernel_rfl, AllL.cons ?_ (AllL.cons ?_ (AllL.nil))⟩
   ·refine ⟨_, rfl, fun Q_ hQ_ => ?_⟩
    refine Reg.pass rfl rfl rfl rfl (Reg.nilK [4, 25] rfl (hQ_ 15 _ _ _ rfl (.inl rfl) rfl (fun w_ e_ => ?_)))
    exact ⟨hI390.ext e_, hA_.trans (Adv.of_ext e_)⟩
   refine ⟨_, rfl, fun Q_ hQ_ => ?_⟩
   refine Reg.pass rfl rfl rfl rfl (Reg.nilK [4, 25] rfl (hQ_ 16 _ _ _ rfl (.inl rfl) rfl (fun w_ e_ => ?_)))
   exact ⟨hI390.ext e_, hA_.trans (Adv.of_ext e_)⟩
  ·rintro w391 ⟨hI392, hA_⟩
   refine .inr ⟨List.cons_ne_nil _ _, [10], by kernel_rfl, AllL.cons ?_ (AllL.nil)⟩
   refine ⟨_, rfl, fun Q_ hQ_ => ?_⟩
   refine Reg.pass rfl rfl rfl rfl (Reg.nilK [4, 25] rfl (hQ_ 16 _ _ _ rfl (.inl rfl) rfl (fun w_ e_ => ?_)))
   exact ⟨hI392.ext e_, hA_.trans (Adv.of_ext e_)⟩
  ·intro w393 ex_
   have hI394 := (Hp.start (Mu := []) hI37.mlt).ext ex_
   refine .inr ⟨List.cons_ne_nil _ _, [14, 16], by kernel_rfl, AllL.cons ?_ (AllL.cons ?_ (AllL.nil))⟩
   ·refine ⟨_, rfl, fun Q_ hQ_ => ?_⟩
    refine Reg.pass rfl rfl rfl rfl (Reg.nilK [4, 16, 25] rfl (hQ_ 17 _ _ _ rfl (.inr hI394.kp) rfl (fun w_ e_ => ?_)))
    exact ex_.trans e_
   refine ⟨_, rfl, fun Q_ hQ_ => ?_⟩
   have hI395 := hI37.join hI394
   refine y_st 0 hI395 rfl rfl rfl rfl Tryd.sizeOf61 rfl rfl (on8 rfl rfl rfl rfl rfl rfl rfl rfl) ?_
   intro w396 hI397 x398
   refine Reg.nilK [4, 25] rfl (hQ_ 18 _ _ _ rfl (.inl rfl) rfl (fun w_ e_ => ?_))
   exact ⟨hI397.ext e_, ((Adv.of_ext ex_).trans x398).trans (Adv.of_ext e_)⟩
  ·rintro w399 ⟨hI400, hA_⟩
   refine .inr ⟨List.cons_ne_nil _ _, [13], by kernel_rfl, AllL.cons ?_ (AllL.nil)⟩
   refine ⟨_, rfl, fun Q_ hQ_ => ?_⟩
   refine Reg.pass rfl rfl rfl rfl (Reg.nilK [4, 25] rfl (hQ_ 18 _ _ _ rfl (.inl rfl) rfl (fun w_ e_ => ?_)))
   exact ⟨hI400.ext e_, hA_.trans (Adv.of_ext e_)⟩
  ·rintro w401 ⟨hI402, hA_⟩
   refine .inr ⟨List.cons_ne_nil _ _, [11], by kernel_rfl, AllL.cons ?_ (AllL.nil)⟩
   refine ⟨_, rfl, fun Q_ hQ_ => ?_⟩
   refine Reg.pass rfl rfl rfl rfl (Reg.nilK [4, 25] rfl (hQ_ 18 _ _ _ rfl (.inl rfl) rfl (fun w_ e_ => ?_)))
   exact ⟨hI402.ext e_, hA_.trans (Adv.of_ext e_)⟩
  ·intro w403 ex_
   have hI404 := (Hp.start (Mu := []) hI37.mlt).ext ex_
   refine .inr ⟨List.cons_ne_nil _ _, [15, 16], by kernel_rfl, AllL.cons ?_ (AllL.cons ?_ (AllL.nil))⟩
   ·refine ⟨_, rfl, fun Q_ hQ_ => ?_⟩
    refine s_pkF rfl rfl rfl (Reg.nilK [4, 16, 31] rfl (hQ_ 19 _ _ _ rfl (.inr hI404.kp) rfl (fun w_ e_ => ?_)))
    exact ex_.trans e_
   refine ⟨_, rfl, fun Q_ hQ_ => ?_⟩
   have hI405 := hI37.join hI404
   refine y_st 0 hI405 rfl rfl rfl rfl Tryd.sizeOf61 rfl rfl (on8 rfl rfl rfl rfl rfl rfl rfl rfl) ?_
   intro w406 hI407 x408
   refine Reg.nilK [4, 25] rfl (hQ_ 20 _ _ _ rfl (.inl rfl) rfl (fun w_ e_ => ?_))
   exact ⟨hI407.ext e_, ((Adv.of_ext ex_).trans x408).trans (Adv.of_ext e_)⟩
  ·rintro w409 ⟨hI410, hA_⟩
   refine .inr ⟨List.cons_ne_nil _ _, [14], by kernel_rfl, AllL.cons ?_ (AllL.nil)⟩
   refine ⟨_, rfl, fun Q_ hQ_ => ?_⟩
   refine Reg.pass rfl rfl rfl rfl (Reg.nilK [4, 25] rfl (hQ_ 20 _ _ _ rfl (.inl rfl) rfl (fun w_ e_ => ?_)))
   exact ⟨hI410.ext e_, hA_.trans (Adv.of_ext e_)⟩
  ·intro w411 ex_
   have hI412 := (Hp.start (Mu := []) hI37.mlt).ext ex_
   refine .inr ⟨List.cons_ne_nil _ _, [16], by kernel_rfl, AllL.cons ?_ (AllL.nil)⟩
   refine ⟨_, rfl, fun Q_ hQ_ => ?_⟩
   have hI413 := hI37.join hI412
   refine y_st 0 hI413 rfl rfl rfl rfl Tryd.sizeOf61 rfl rfl (on8 rfl rfl rfl rfl rfl rfl rfl rfl) ?_
   intro w414 hI415 x416
   refine Reg.nilK [4, 31] rfl (hQ_ 21 _ _ _ rfl (.inl rfl) rfl (fun w_ e_ => ?_))
   exact ⟨hI415.ext e_, ((Adv.of_ext ex_).trans x416).trans (Adv.of_ext e_)⟩
  ·rintro w417 ⟨hI418, hA_⟩
   refine .inr ⟨List.cons_ne_nil _ _, [15], by kernel_rfl, AllL.cons ?_ (AllL.nil)⟩
   refine ⟨_, rfl, fun Q_ hQ_ => ?_⟩
   refine s_pkF rfl rfl rfl (Reg.nilK [4, 31] rfl (hQ_ 21 _ _ _ rfl (.inl rfl) rfl (fun w_ e_ => ?_)))
   exact ⟨hI418.ext e_, hA_.trans (Adv.of_ext e_)⟩
  ·rintro w419 ⟨hI420, hA_⟩
   refine .inr ⟨List.cons_ne_nil _ _, [17], by kernel_rfl, AllL.cons ?_ (AllL.nil)⟩
   refine ⟨_, rfl, fun Q_ hQ_ => ?_⟩
   refine s_as rfl rfl (Reg.nilK [4, 5] rfl (hQ_ 22 _ _ _ rfl (.inl rfl) rfl (fun w_ e_ => ?_)))
   exact ⟨hI420.ext e_, hA_.trans (Adv.of_ext e_)⟩
  rintro w421 ⟨hI422, hA_⟩
  refine .inl ⟨rfl, ?_⟩
  obtain rfl := Option.some.inj h40
  refine ⟨rfl, (false, y17.id, y17.source, y17.account, y17.made, y17.about, y17.kind, y17.cents, y17.of_), ⟨hI422, hA_, r22, r23, r24, r25, r26, r27, r28, r29, rfl⟩, sb2 rfl rfl⟩
 rintro ⟨x41, x42, x44, x46, x48, x50, x52, x54, x56⟩ w58 ⟨hI59, hA60, r43, r45, r47, r49, r51, r53, r55, r57, rfl⟩
 refine cw_ret ?_
 obtain ⟨rfl, rfl⟩ := inj2 h
 refine fin_any Tryd.results42 (AllRs.cons (RsOk.agg rfl (hI59.row 0 rfl).rd.cells Tryd.isAgg61 rfl Tryd.sizeOf61) (AllRs.cons (RsOk.tmp rfl) (AllRs.nil))) rfl ?_
 exact ⟨rfl, r43, r45, r47, r49, r51, r53, r55, r57, hI59.kp⟩
noncomputable def P.account_desk_away (d : Desk) (id : Int) : Option Bool :=
  Option.bind (some ((d.gone id).getD 0)) fun y7 => some ((d.gone id).isSome)
theorem C_account_desk_away {M : List Nat} {w : World} (hM : MLt M w) {d : Desk} {v_d_0 : Value} {v_d_1 : Value} {v_d_2 : Value} (f_d_0 : RdF Ky3 ReportE true M w v_d_0 d.store.reports) (f_d_1 : RdF Ky3 (intE .i64) false M w v_d_1 d.gone) (f_d_2 : RdF Ky3 (intE .i64) false M w v_d_2 d.fixed) {id : Int} (f_id_0 : InK .i64 id) {r0 : Bool} (h : P.account_desk_away d id = some r0) :
  Calls Tryd.prog 70 (List.toArray [Value.agg (List.toArray [v_d_0, v_d_1, v_d_2]), vi id]) w fun e w' => e = .returned (Value.bool r0) ∧ Ext w w' := by
 have hI := Hp.start (Mu := []) hM
 refine calls_cw Tryd.func70 rfl Tryd.ntmps70 rfl ?_
 refine cw_seq (cw_regF (y_box hI rfl rfl rfl ?_))
 intro b1 w2 hI3 x4
 have hC6 := hI3.freezeRow 0 rfl
 have hI5 := hI3.erase 0
 refine s_as rfl rfl (Reg.nil (cw_seq (cw_regF (s_fa rfl Tryd.underlying92 rfl Tryd.sizeOf79 rfl (s_ld rfl (hC6.cells.at 1 rfl) Tryd.isAgg79 rfl (s_mv rfl rfl ?_))))))
 obtain ⟨y7, hy7, h⟩ := bnd h
 refine s_lkF (a := id) (z0 := 0) (f_d_1.adv hI5.adv) rfl rfl (show InK .i64 id from f_id_0) Tryd.underlying79 Tryd.zeroValue3 ⟨_, ⟨rfl, (by decide)⟩, .inr ⟨rfl, rfl⟩⟩ rfl ?_
 intro v8 hv9
 rw [Option.some.inj hy7] at hv9
 have hR10 := Vl.one1 hv9
 obtain ⟨r11', r11⟩ := hR10
 obtain rfl := one_inj r11'
 refine s_mv rfl rfl (s_xt rfl rfl rfl (s_xt rfl rfl rfl (s_as rfl rfl (s_as rfl rfl (Reg.nil (cw_seq (cw_regF (s_mv rfl rfl (s_as rfl rfl (Reg.nil (cw_ret ?_)))))))))))
 obtain rfl := Option.some.inj h
 refine fin1 Tryd.results70 rfl ?_
 exact ⟨rfl, hI5.kp⟩
noncomputable def P.slices_IndexFunc_58 (s : (List Report)) (f : Report → Option Bool) : Option Int :=
  Option.bind (loopM (S := Int) (R := (Unit) ⊕ (Int)) (fun x1 => cond (decide (x1 < (s.length : Int))) (Option.bind (ixo s x1) fun y3 => Option.bind (f y3) fun z17 => cond z17 (some (.inr (.inr x1))) (Option.bind (chk .i64 (x1 + 1)) fun n23 => some (.inl n23))) (some (.inr (.inl ())))) 0) fun j24 => Sum.elim (fun _ => some (-1)) (fun r25 => some r25)  j24
theorem C_slices_IndexFunc_58 {M : List Nat} {w : World} (hM : MLt M w) {s : (List Report)} {v_s_0 : Value} (f_s_0 : RdS ReportE M w v_s_0 s) {v_f : Value} {f : Report → Option Bool} (f_f : ∀ (x0 : Report) (r : Bool) (w1 : World), Kp [] w w1 → InK .i64 x0.id → InK .i64 x0.source → InK .i64 x0.account → InK .i64 x0.made → InK .i64 x0.about → InK .u8 x0.kind → InK .i64 x0.cents → InK .i64 x0.of_ → f x0 = some r → CallsV Tryd.prog v_f [Value.agg (List.toArray (vR x0))] w1 fun e w2 => e = .returned (Value.bool r) ∧ Ext w1 w2) {r0 : Int} (h : P.slices_IndexFunc_58 s f = some r0) :
  Calls Tryd.prog 58 (List.toArray [v_s_0, v_f]) w fun e w' => e = .returned (vi r0) ∧ InK .i64 r0 ∧ Ext w w' := by
 have hI := Hp.start (Mu := []) hM
 refine calls_cw Tryd.func58 rfl Tryd.ntmps58 rfl ?_
 refine cw_seq (cw_regF (s_as rfl rfl (Reg.nil (cw_seq (cw_seq (cw_regF (s_mv rfl rfl (s_len rfl f_s_0 Tryd.underlying22 rfl (s_mv rfl rfl (Reg.nil ?_))))))))))
 obtain ⟨j1, h2, h⟩ := bnd h
 refine cw_keep [0, 1, 7, 8] rfl (cw_unitD 4 (ι := Unit) (fun _ => []) (fun _ => fun w3 => Hp w [] M [] w3 ∧ Adv (mm [] M) (mm [] M) w w3 ∧ (.inl ()) = j1) ?_ ?_)
 ·refine cw_block (cw_keep [8, 0, 1, 7] rfl ?_)
  refine cw_loopM 1 (ι := Int) _ (fun x6 => [(8, vi x6)]) (fun x6 => x6) (fun x6 => fun w8 => Hp w [] M [] w8 ∧ Adv (mm [] M) (mm [] M) w w8 ∧ InK .i64 x6) 0 h2 ⟨hI, (Adv.refl _ _), (by decide)⟩ (sb4 rfl rfl rfl rfl) ?_
  rintro x6 w8 ⟨hI9, hA10, r7⟩ y11 h12 hR13
  refine cw_seq (cw_regF (s_lss rfl rfl rfl (Reg.nil (cw_seq (cw_cond rfl (fun hc14 => ?_) (fun hc14 => ?_))))))
  ·replace h12 := cdT hc14 h12
   refine cw_skip (cw_seq (cw_block (cw_seq (cw_regF (s_mv rfl rfl (s_as rfl rfl (Reg.nil (cw_seq (cw_regF ?_)))))))))
   iterate 3 refine s_mv rfl rfl ?_
   obtain ⟨y15, hy15, h12⟩ := bnd h12
   refine p_ia rfl rfl (f_s_0.adv hI9.adv) hy15 Tryd.underlying22 Tryd.sizeOf61 rfl ?_
   intro b16 o17 cs18 hR19 hC20
   obtain ⟨rfl, r21, r22, r23, r24, r25, r26, r27, r28⟩ := ReportE_R.1 hR19
   refine s_lda rfl hC20.cells Tryd.isAgg61 rfl Tryd.sizeOf61 rfl ?_
   obtain ⟨z29, hz29, h12⟩ := bnd h12
   refine s_callV rfl rfl rfl ?_
   refine (f_f _ _ _ hI9.kp r21 r22 r23 r24 r25 r26 r27 r28 hz29).mono ?_
   rintro _ w30 ⟨rfl, e31⟩
   refine ⟨_, rfl, ?_⟩
   have hI33 := hI9.ext e31
   refine Reg.nil (cw_cond rfl (fun hc34 => ?_) (fun hc34 => ?_))
   ·replace h12 := cdT hc34 h12
    refine cw_seq (cw_regF (s_mv rfl rfl (s_as rfl rfl (Reg.nil (cw_ret ?_)))))
    obtain rfl := Option.some.inj h12
    obtain rfl := hR13 _ rfl
    replace h := elimR h
    obtain rfl := Option.some.inj h
    refine fin1 Tryd.results58 rfl ?_
    exact ⟨rfl, r7, hI33.kp⟩
   replace h12 := cdF hc34 h12
   refine cw_skip (cw_regF ?_)
   obtain ⟨n35, hn35, h12⟩ := bnd h12
   replace hn35 := chk_out hn35
   refine p_add rfl rfl rfl hn35 (s_mv rfl rfl (Reg.nil ?_))
   obtain rfl := Option.some.inj h12
   refine ⟨rfl, n35, ⟨⟨hI33, hI33.adv, hn35.2⟩, rfl⟩, sb4 rfl rfl rfl rfl⟩
  replace h12 := cdF hc14 h12
  refine cw_exit (exB_same ?_)
  obtain rfl := Option.some.inj h12
  obtain rfl := hR13 _ rfl
  refine ⟨rfl, (), ⟨hI9, hI9.adv, rfl⟩, Sub.nil _⟩
 rintro _ w3 ⟨hI4, hA5, rfl⟩
 replace h := elimL h
 refine cw_seq (cw_regF (s_as rfl rfl (Reg.nil (cw_ret ?_))))
 obtain rfl := Option.some.inj h
 refine fin1 Tryd.results58 rfl ?_
 exact ⟨rfl, (by decide), hI4.kp⟩
noncomputable def P.slices_ContainsFunc_48 (s : (List Report)) (f : Report → Option Bool) : Option Bool :=
  Option.bind (P.slices_IndexFunc_58 s f) fun z1 => some (decide (0 ≤ z1))
theorem C_slices_ContainsFunc_48 {M : List Nat} {w : World} (hM : MLt M w) {s : (List Report)} {v_s_0 : Value} (f_s_0 : RdS ReportE M w v_s_0 s) {v_f : Value} {f : Report → Option Bool} (f_f : ∀ (x0 : Report) (r : Bool) (w1 : World), Kp [] w w1 → InK .i64 x0.id → InK .i64 x0.source → InK .i64 x0.account → InK .i64 x0.made → InK .i64 x0.about → InK .u8 x0.kind → InK .i64 x0.cents → InK .i64 x0.of_ → f x0 = some r → CallsV Tryd.prog v_f [Value.agg (List.toArray (vR x0))] w1 fun e w2 => e = .returned (Value.bool r) ∧ Ext w1 w2) {r0 : Bool} (h : P.slices_ContainsFunc_48 s f = some r0) :
  Calls Tryd.prog 48 (List.toArray [v_s_0, v_f]) w fun e w' => e = .returned (Value.bool r0) ∧ Ext w w' := by
 have hI := Hp.start (Mu := []) hM
 refine calls_cw Tryd.func48 rfl Tryd.ntmps48 rfl ?_
 refine cw_seq (cw_regF (s_as rfl rfl (Reg.nil (cw_seq (cw_regF (s_mv rfl rfl (s_mv rfl rfl ?_)))))))
 obtain ⟨z1, hz2, h⟩ := bnd h
 refine s_call rfl Tryd.call58 rfl ((C_slices_IndexFunc_58 hI.mlt f_s_0 (fun a0 r w9 e9 f0 f1 f2 f3 f4 f5 f6 f7 hr => f_f a0 r w9 (hI.kp.trans (Ext.kp e9)) f0 f1 f2 f3 f4 f5 f6 f7 hr) hz2).mono ?_)
 rintro _ w3 ⟨rfl, r5, e4⟩
 refine ⟨_, rfl, ?_⟩
 have hI6 := hI.ext e4
 refine s_geq rfl rfl rfl (s_as rfl rfl (Reg.nil (cw_ret ?_)))
 obtain rfl := Option.some.inj h
 refine fin1 Tryd.results48 rfl ?_
 exact ⟨rfl, hI6.kp⟩
noncomputable def P.slices_IndexFunc_91 (s : (List Int)) (f : Int → Option Bool) : Option Int :=
  Option.bind (loopM (S := Int) (R := (Unit) ⊕ (Int)) (fun x1 => cond (decide (x1 < (s.length : Int))) (Option.bind (ixo s x1) fun y3 => Option.bind (f y3) fun z10 => cond z10 (some (.inr (.inr x1))) (Option.bind (chk .i64 (x1 + 1)) fun n16 => some (.inl n16))) (some (.inr (.inl ())))) 0) fun j17 => Sum.elim (fun _ => some (-1)) (fun r18 => some r18)  j17
theorem C_slices_IndexFunc_91 {M : List Nat} {w : World} (hM : MLt M w) {s : (List Int)} {v_s_0 : Value} (f_s_0 : RdS (intE .i64) M w v_s_0 s) {v_f : Value} {f : Int → Option Bool} (f_f : ∀ (x0 : Int) (r : Bool) (w1 : World), Kp [] w w1 → InK .i64 x0 → f x0 = some r → CallsV Tryd.prog v_f [vi x0] w1 fun e w2 => e = .returned (Value.bool r) ∧ Ext w1 w2) {r0 : Int} (h : P.slices_IndexFunc_91 s f = some r0) :
  Calls Tryd.prog 91 (List.toArray [v_s_0, v_f]) w fun e w' => e = .returned (vi r0) ∧ InK .i64 r0 ∧ Ext w w' := by
 have hI := Hp.start (Mu := []) hM
 refine calls_cw Tryd.func91 rfl Tryd.ntmps91 rfl ?_
 refine cw_seq (cw_regF (s_as rfl rfl (Reg.nil (cw_seq (cw_seq (cw_regF (s_mv rfl rfl (s_len rfl f_s_0 Tryd.underlying36 rfl (s_mv rfl rfl (Reg.nil ?_))))))))))
 obtain ⟨j1, h2, h⟩ := bnd h
 refine cw_keep [0, 1, 7, 8] rfl (cw_unitD 4 (ι := Unit) (fun _ => []) (fun _ => fun w3 => Hp w [] M [] w3 ∧ Adv (mm [] M) (mm [] M) w w3 ∧ (.inl ()) = j1) ?_ ?_)
 ·refine cw_block (cw_keep [8, 0, 1, 7] rfl ?_)
  refine cw_loopM 1 (ι := Int) _ (fun x6 => [(8, vi x6)]) (fun x6 => x6) (fun x6 => fun w8 => Hp w [] M [] w8 ∧ Adv (mm [] M) (mm [] M) w w8 ∧ InK .i64 x6) 0 h2 ⟨hI, (Adv.refl _ _), (by decide)⟩ (sb4 rfl rfl rfl rfl) ?_
  rintro x6 w8 ⟨hI9, hA10, r7⟩ y11 h12 hR13
  refine cw_seq (cw_regF (s_lss rfl rfl rfl (Reg.nil (cw_seq (cw_cond rfl (fun hc14 => ?_) (fun hc14 => ?_))))))
  ·replace h12 := cdT hc14 h12
   refine cw_skip (cw_seq (cw_block (cw_seq (cw_regF (s_mv rfl rfl (s_as rfl rfl (Reg.nil (cw_seq (cw_regF ?_)))))))))
   iterate 3 refine s_mv rfl rfl ?_
   obtain ⟨y15, hy15, h12⟩ := bnd h12
   refine p_ia rfl rfl (f_s_0.adv hI9.adv) hy15 Tryd.underlying36 Tryd.sizeOf3 rfl ?_
   intro b16 o17 cs18 hR19 hC20
   obtain ⟨rfl, r21⟩ := hR19
   refine s_ld rfl (hC20.cells.at 0 rfl) Tryd.isAgg3 rfl ?_
   obtain ⟨z22, hz22, h12⟩ := bnd h12
   refine s_callV rfl rfl rfl ?_
   refine (f_f _ _ _ hI9.kp r21 hz22).mono ?_
   rintro _ w23 ⟨rfl, e24⟩
   refine ⟨_, rfl, ?_⟩
   have hI26 := hI9.ext e24
   refine Reg.nil (cw_cond rfl (fun hc27 => ?_) (fun hc27 => ?_))
   ·replace h12 := cdT hc27 h12
    refine cw_seq (cw_regF (s_mv rfl rfl (s_as rfl rfl (Reg.nil (cw_ret ?_)))))
    obtain rfl := Option.some.inj h12
    obtain rfl := hR13 _ rfl
    replace h := elimR h
    obtain rfl := Option.some.inj h
    refine fin1 Tryd.results91 rfl ?_
    exact ⟨rfl, r7, hI26.kp⟩
   replace h12 := cdF hc27 h12
   refine cw_skip (cw_regF ?_)
   obtain ⟨n28, hn28, h12⟩ := bnd h12
   replace hn28 := chk_out hn28
   refine p_add rfl rfl rfl hn28 (s_mv rfl rfl (Reg.nil ?_))
   obtain rfl := Option.some.inj h12
   refine ⟨rfl, n28, ⟨⟨hI26, hI26.adv, hn28.2⟩, rfl⟩, sb4 rfl rfl rfl rfl⟩
  replace h12 := cdF hc14 h12
  refine cw_exit (exB_same ?_)
  obtain rfl := Option.some.inj h12
  obtain rfl := hR13 _ rfl
  refine ⟨rfl, (), ⟨hI9, hI9.adv, rfl⟩, Sub.nil _⟩
 rintro _ w3 ⟨hI4, hA5, rfl⟩
 replace h := elimL h
 refine cw_seq (cw_regF (s_as rfl rfl (Reg.nil (cw_ret ?_))))
 obtain rfl := Option.some.inj h
 refine fin1 Tryd.results91 rfl ?_
 exact ⟨rfl, (by decide), hI4.kp⟩
noncomputable def P.slices_ContainsFunc_67 (s : (List Int)) (f : Int → Option Bool) : Option Bool :=
  Option.bind (P.slices_IndexFunc_91 s f) fun z1 => some (decide (0 ≤ z1))
theorem C_slices_ContainsFunc_67 {M : List Nat} {w : World} (hM : MLt M w) {s : (List Int)} {v_s_0 : Value} (f_s_0 : RdS (intE .i64) M w v_s_0 s) {v_f : Value} {f : Int → Option Bool} (f_f : ∀ (x0 : Int) (r : Bool) (w1 : World), Kp [] w w1 → InK .i64 x0 → f x0 = some r → CallsV Tryd.prog v_f [vi x0] w1 fun e w2 => e = .returned (Value.bool r) ∧ Ext w1 w2) {r0 : Bool} (h : P.slices_ContainsFunc_67 s f = some r0) :
  Calls Tryd.prog 67 (List.toArray [v_s_0, v_f]) w fun e w' => e = .returned (Value.bool r0) ∧ Ext w w' := by
 have hI := Hp.start (Mu := []) hM
 refine calls_cw Tryd.func67 rfl Tryd.ntmps67 rfl ?_
 refine cw_seq (cw_regF (s_as rfl rfl (Reg.nil (cw_seq (cw_regF (s_mv rfl rfl (s_mv rfl rfl ?_)))))))
 obtain ⟨z1, hz2, h⟩ := bnd h
 refine s_call rfl Tryd.call91 rfl ((C_slices_IndexFunc_91 hI.mlt f_s_0 (fun a0 r w9 e9 f0 hr => f_f a0 r w9 (hI.kp.trans (Ext.kp e9)) f0 hr) hz2).mono ?_)
 rintro _ w3 ⟨rfl, r5, e4⟩
 refine ⟨_, rfl, ?_⟩
 have hI6 := hI.ext e4
 refine s_geq rfl rfl rfl (s_as rfl rfl (Reg.nil (cw_ret ?_)))
 obtain rfl := Option.some.inj h
 refine fin1 Tryd.results67 rfl ?_
 exact ⟨rfl, hI6.kp⟩
noncomputable def P.account_in_in1 (n : Int) (lo_c : Int) (hi_c : Int) : Option Bool :=
  Option.bind (cond (decide (n < lo_c)) (some true) (some (decide (hi_c < n)))) fun x2 => some x2
theorem C_account_in_in1 {M : List Nat} {w : World} (hM : MLt M w) {n : Int} (f_n_0 : InK .i64 n) {lo_c : Int} (f_lo_c_0 : InK .i64 lo_c) {b_lo_c : Nat} (c_lo_c : RdC M w b_lo_c 0 [vi lo_c]) {hi_c : Int} (f_hi_c_0 : InK .i64 hi_c) {b_hi_c : Nat} (c_hi_c : RdC M w b_hi_c 0 [vi hi_c]) {r0 : Bool} (h : P.account_in_in1 n lo_c hi_c = some r0) :
  Calls Tryd.prog 68 (List.toArray [vi n, vp b_lo_c 0, vp b_hi_c 0]) w fun e w' => e = .returned (Value.bool r0) ∧ Ext w w' := by
 have hI := Hp.start (Mu := []) hM
 refine calls_cw Tryd.func68 rfl Tryd.ntmps68 rfl ?_
 refine cw_seq (cw_regF (s_as rfl rfl (Reg.nil ?_)))
 obtain ⟨j1, h2, h⟩ := bnd h
 refine cw_keep [0, 1, 2] rfl (cw_seqD 3 (ι := Bool) (fun x3 => [(4, Value.bool x3)]) (fun x3 => fun w4 => w = w4 ∧ x3 = j1) ?_ ?_)
 ·refine cw_regF (s_mv rfl rfl (s_ld rfl (c_lo_c.cells.at 0 rfl) Tryd.isAgg3 rfl (s_lss rfl rfl rfl (s_mv rfl rfl (Reg.gsplit (t := 8) rfl (fun hg7 => ?_) (fun hg7 => ?_))))))
  ·replace h2 := cdT hg7 h2
   iterate 3 refine Reg.pass rfl rfl rfl rfl ?_
   refine s_pkT rfl rfl rfl (s_as rfl rfl (Reg.nil ?_))
   obtain rfl := Option.some.inj h2
   refine ⟨rfl, true, ⟨rfl, rfl⟩, sb1 rfl⟩
  replace h2 := cdF hg7 h2
  refine Reg.take rfl rfl (s_mv rfl rfl (Reg.take rfl rfl (s_ld rfl (c_hi_c.cells.at 0 rfl) Tryd.isAgg3 rfl (Reg.take rfl rfl (s_gtr rfl rfl rfl (s_pkF rfl rfl rfl (s_as rfl rfl (Reg.nil ?_))))))))
  obtain rfl := Option.some.inj h2
  refine ⟨rfl, decide (hi_c < n), ⟨rfl, rfl⟩, sb1 rfl⟩
 rintro x3 _ ⟨rfl, rfl⟩
 refine cw_ret ?_
 obtain rfl := Option.some.inj h
 refine fin1 Tryd.results68 rfl ?_
 exact ⟨rfl, hI.kp⟩
noncomputable def P.account_in (lo : Int) (hi : Int) (all : (List Int)) : Option Bool :=
  Option.bind (P.slices_ContainsFunc_67 all (fun x0_ => P.account_in_in1 x0_ lo hi)) fun z13 => some (!z13)
theorem C_account_in {M : List Nat} {w : World} (hM : MLt M w) {lo : Int} (f_lo_0 : InK .i64 lo) {hi : Int} (f_hi_0 : InK .i64 hi) {all : (List Int)} {v_all_0 : Value} (f_all_0 : RdS (intE .i64) M w v_all_0 all) {r0 : Bool} (h : P.account_in lo hi all = some r0) :
  Calls Tryd.prog 35 (List.toArray [vi lo, vi hi, v_all_0]) w fun e w' => e = .returned (Value.bool r0) ∧ Ext w w' := by
 have hI := Hp.start (Mu := []) hM
 refine calls_cw Tryd.func35 rfl Tryd.ntmps35 rfl ?_
 refine cw_seq (cw_regF (y_box hI rfl rfl rfl ?_))
 intro b1 w2 hI3 x4
 have hC6 := hI3.freezeRow 0 rfl
 have hI5 := hI3.erase 0
 refine y_box hI5 rfl rfl rfl ?_
 intro b7 w8 hI9 x10
 have hC12 := hI9.freezeRow 0 rfl
 have hI11 := hI9.erase 0
 refine s_as rfl rfl (Reg.nil (cw_seq (cw_regF (s_mv rfl rfl (s_mf rfl rfl ?_)))))
 obtain ⟨z13, hz14, h⟩ := bnd h
 refine s_call rfl Tryd.call67 rfl ((C_slices_ContainsFunc_67 hI11.mlt (f_all_0.adv hI11.adv) (fun a0 r w9 e9 f0 hr => CallsV.ofL Tryd.call68 rfl (C_account_in_in1 (hI11.mlt.ext e9) f0 f_lo_0 ((hC6.adv (x10.trans (hI9.eraseH 0))).adv (Adv.of_ext e9)) f_hi_0 (hC12.adv (Adv.of_ext e9)) hr)) hz14).mono ?_)
 rintro _ w15 ⟨rfl, e16⟩
 refine ⟨_, rfl, ?_⟩
 have hI17 := hI11.ext e16
 refine s_not rfl rfl (s_as rfl rfl (Reg.nil (cw_ret ?_)))
 obtain rfl := Option.some.inj h
 refine fin1 Tryd.results35 rfl ?_
 exact ⟨rfl, hI17.kp⟩
noncomputable def P.account_fact (r : Report) : Option Bool :=
  some (decide (r.kind ≤ 7))
theorem C_account_fact {M : List Nat} {w : World} (hM : MLt M w) {r : Report} (f_r_0 : InK .i64 r.id) (f_r_1 : InK .i64 r.source) (f_r_2 : InK .i64 r.account) (f_r_3 : InK .i64 r.made) (f_r_4 : InK .i64 r.about) (f_r_5 : InK .u8 r.kind) (f_r_6 : InK .i64 r.cents) (f_r_7 : InK .i64 r.of_) {r0 : Bool} (h : P.account_fact r = some r0) :
  Calls Tryd.prog 43 (List.toArray [Value.agg (List.toArray (vR r))]) w fun e w' => e = .returned (Value.bool r0) ∧ Ext w w' := by
 have hI := Hp.start (Mu := []) hM
 refine calls_cw Tryd.func43 rfl Tryd.ntmps43 rfl ?_
 refine cw_seq (cw_regF (y_box hI rfl rfl rfl ?_))
 intro b1 w2 hI3 x4
 have hC6 := hI3.freezeRow 0 rfl
 have hI5 := hI3.erase 0
 refine s_as rfl rfl (Reg.nil (cw_seq (cw_regF (s_fa rfl Tryd.underlying61 rfl Tryd.sizeOf5 rfl (s_ld rfl (hC6.cells.at 5 rfl) Tryd.isAgg5 rfl (s_leq rfl rfl rfl (s_as rfl rfl (Reg.nil (cw_ret ?_)))))))))
 obtain rfl := Option.some.inj h
 refine fin1 Tryd.results43 rfl ?_
 exact ⟨rfl, hI5.kp⟩
noncomputable def P.account_right (r : Report) : Option Bool :=
  Option.bind (Option.bind (chk .i64 r.kind) fun n7 => Option.bind (P.account_in 1 9 ([n7] : List Int)) fun z17 => cond (!z17) (some true) (Option.bind (P.account_in 0 999999 ([r.id, r.source, r.account, r.of_] : List Int)) fun z36 => cond (!z36) (some true) (Option.bind (P.account_in 0 100000 ([r.made, r.about] : List Int)) fun z55 => cond (!z55) (some true) (Option.bind (ixo glob0 r.kind) fun y65 => Option.bind (P.account_in 0 y65 ([r.cents] : List Int)) fun z76 => some (!z76))))) fun x85 => cond x85 (some false) (Option.bind (P.account_fact (Report.mk r.id r.source r.account r.made r.about r.kind r.cents r.of_)) fun z87 => cond z87 (some (decide (r.of_ = 0))) (Option.bind (cond (decide (r.kind = 9)) (some (!decide (r.about = 0))) (some false)) fun x94 => cond x94 (some false) (some (!decide (r.of_ = r.id)))))
theorem C_account_right {M : List Nat} {w : World} (hM : MLt M w) (hG : RdC M w 0 0 (glob0.map (Value.int .i64))) {r : Report} (f_r_0 : InK .i64 r.id) (f_r_1 : InK .i64 r.source) (f_r_2 : InK .i64 r.account) (f_r_3 : InK .i64 r.made) (f_r_4 : InK .i64 r.about) (f_r_5 : InK .u8 r.kind) (f_r_6 : InK .i64 r.cents) (f_r_7 : InK .i64 r.of_) {r0 : Bool} (h : P.account_right r = some r0) :
  Calls Tryd.prog 50 (List.toArray [Value.agg (List.toArray (vR r))]) w fun e w' => e = .returned (Value.bool r0) ∧ Ext w w' := by
 have hI := Hp.start (Mu := []) hM
 refine calls_cw Tryd.func50 rfl Tryd.ntmps50 rfl ?_
 refine cw_seq (cw_regF (y_box hI rfl rfl rfl ?_))
 intro b1 w2 hI3 x4
 have hC6 := hI3.freezeRow 0 rfl
 have hI5 := hI3.erase 0
 refine s_as rfl rfl (Reg.nil (cw_seq ?_))
 obtain ⟨j7, h8, h⟩ := bnd h
 refine cw_keep [1] rfl (cw_seqD 0 (ι := Bool) (fun x9 => [(41, Value.bool x9)]) (fun x9 => fun w10 => Hp w [] M [] w10 ∧ Adv (mm [] M) (mm [] M) w2 w10 ∧ x9 = j7) ?_ ?_)
 ·refine cw_regD [0, 1, 2, 3, 4, 5, 6, 7, 8, 9, 10, 11, 12, 13, 14, 15, 16, 17, 18, 19, 20, 21, 22, 23, 24, 25, 26, 27, 28, 29, 30, 31, 32, 33, 34, 35, 36, 37, 38] [] fol (by kernel_rfl) rfl rfl ?_
  refine s_fa rfl Tryd.underlying61 rfl Tryd.sizeOf5 rfl (s_ld rfl (hC6.cells.at 5 rfl) Tryd.isAgg5 rfl ?_)
  obtain ⟨n13, hn13, h8⟩ := bnd h8
  replace hn13 := chk_out hn13
  refine p_cvt rfl Tryd.underlying5 Tryd.underlying3 rfl hn13 ?_
  refine Reg.rel (.p fun v w' => RdS (intE .i64) (mm [] M) w' v ([n13] : List Int)) [] rfl rfl rfl RSub.nil rfl (nodupB_spec rfl) ?_ (fun v w1 w2 e h => h.adv (Adv.of_ext e)) ?_
  ·intro w14 e15; simp only [relOut]; refine s_bs (E := (intE .i64)) (M := mm [] M) (Bb := 0) (xs := ([n13] : List Int)) sl36 rfl rfl (Cls.cons rfl Cls.nil) (Chs.cons ⟨rfl, hn13.2⟩ Chs.nil) (hI5.mlt.ext e15) (Nat.zero_le _) rfl rfl ?_; intro a16 w17 x18 _ h19 _; exact Reg.nil ⟨rfl, x18, _, rfl, h19, trivial⟩
  obtain ⟨z23, hz23, h8⟩ := bnd h8
  refine Reg.relC (.bool z23) [(6, _)] rfl rfl (RSub.cons rfl rfl RSub.nil) rfl (nodupB_spec rfl) ?_ ?_
  ·intro w24 e25; simp only [relOut]; intro u20 k21 s22; refine s_call rfl Tryd.call35 rfl ?_; refine (C_account_in (hI5.mlt.ext e25) (by decide) (by decide) k21 hz23).mono ?_; rintro _ w26 ⟨rfl, x27⟩; refine ⟨_, rfl, ?_⟩; exact Reg.nil ⟨rfl, x27, _, rfl, rfl, trivial⟩
  refine s_not rfl rfl (s_mv rfl rfl (Reg.gsplit (t := 9) rfl (fun hg29 => ?_) (fun hg29 => ?_)))
  ·replace h8 := cdT hg29 h8
   iterate 11 refine Reg.pass rfl rfl rfl rfl ?_
   refine s_pkT rfl rfl rfl (s_mv rfl rfl ?_)
   iterate 7 refine Reg.pass rfl rfl rfl rfl ?_
   refine s_pkT rfl rfl rfl (s_mv rfl rfl ?_)
   iterate 9 refine Reg.pass rfl rfl rfl rfl ?_
   refine s_pkT rfl rfl rfl (Reg.nilF [] RSub.nil (nodupB_spec rfl) ?_)
   intro w30 e31
   refine Reg.nil ?_
   have hI32 := hI5.ext e31
   obtain rfl := Option.some.inj h8
   refine ⟨rfl, true, ⟨hI32, (Adv.of_ext e31), rfl⟩, sb2 rfl rfl⟩
  replace h8 := cdF hg29 h8
  refine Reg.take rfl rfl (s_fa rfl Tryd.underlying61 rfl Tryd.sizeOf3 rfl (Reg.take rfl rfl (s_ld rfl (hC6.cells.at 0 rfl) Tryd.isAgg3 rfl (Reg.take rfl rfl (s_fa rfl Tryd.underlying61 rfl Tryd.sizeOf3 rfl (Reg.take rfl rfl (s_ld rfl (hC6.cells.at 1 rfl) Tryd.isAgg3 rfl (Reg.take rfl rfl (s_fa rfl Tryd.underlying61 rfl Tryd.sizeOf3 rfl (Reg.take rfl rfl (s_ld rfl (hC6.cells.at 2 rfl) Tryd.isAgg3 rfl ?_)))))))))))
  refine Reg.take rfl rfl (s_fa rfl Tryd.underlying61 rfl Tryd.sizeOf3 rfl (Reg.take rfl rfl (s_ld rfl (hC6.cells.at 7 rfl) Tryd.isAgg3 rfl (Reg.take rfl rfl (Reg.rel (.p fun v w' => RdS (intE .i64) (mm [] M) w' v ([r.id, r.source, r.account, r.of_] : List Int)) [] rfl rfl rfl RSub.nil rfl (nodupB_spec rfl) ?_ (fun v w1 w2 e h => h.adv (Adv.of_ext e)) ?_)))))
  ·intro w33 e34; simp only [relOut]; refine s_bs (E := (intE .i64)) (M := mm [] M) (Bb := 0) (xs := ([r.id, r.source, r.account, r.of_] : List Int)) sl36 rfl rfl (Cls.cons rfl (Cls.cons rfl (Cls.cons rfl (Cls.cons rfl Cls.nil)))) (Chs.cons ⟨rfl, f_r_0⟩ (Chs.cons ⟨rfl, f_r_1⟩ (Chs.cons ⟨rfl, f_r_2⟩ (Chs.cons ⟨rfl, f_r_7⟩ Chs.nil)))) (hI5.mlt.ext e34) (Nat.zero_le _) rfl rfl ?_; intro a35 w36 x37 _ h38 _; exact Reg.nil ⟨rfl, x37, _, rfl, h38, trivial⟩
  refine Reg.take rfl rfl ?_
  obtain ⟨z42, hz42, h8⟩ := bnd h8
  refine Reg.relC (.bool z42) [(18, _)] rfl rfl (RSub.cons rfl rfl RSub.nil) rfl (nodupB_spec rfl) ?_ ?_
  ·intro w43 e44; simp only [relOut]; intro u39 k40 s41; refine s_call rfl Tryd.call35 rfl ?_; refine (C_account_in (hI5.mlt.ext e44) (by decide) (by decide) k40 hz42).mono ?_; rintro _ w45 ⟨rfl, x46⟩; refine ⟨_, rfl, ?_⟩; exact Reg.nil ⟨rfl, x46, _, rfl, rfl, trivial⟩
  refine Reg.take rfl rfl (s_not rfl rfl (s_pkF rfl rfl rfl (s_mv rfl rfl (Reg.gsplit (t := 22) rfl (fun hg48 => ?_) (fun hg48 => ?_)))))
  ·replace h8 := cdT hg48 h8
   iterate 7 refine Reg.pass rfl rfl rfl rfl ?_
   refine s_pkT rfl rfl rfl (s_mv rfl rfl ?_)
   iterate 9 refine Reg.pass rfl rfl rfl rfl ?_
   refine s_pkT rfl rfl rfl (Reg.nilF [] RSub.nil (nodupB_spec rfl) ?_)
   intro w49 e50
   refine Reg.nil ?_
   have hI51 := hI5.ext e50
   obtain rfl := Option.some.inj h8
   refine ⟨rfl, true, ⟨hI51, (Adv.of_ext e50), rfl⟩, sb2 rfl rfl⟩
  replace h8 := cdF hg48 h8
  refine Reg.take rfl rfl (s_fa rfl Tryd.underlying61 rfl Tryd.sizeOf3 rfl (Reg.take rfl rfl (s_ld rfl (hC6.cells.at 3 rfl) Tryd.isAgg3 rfl (Reg.take rfl rfl (s_fa rfl Tryd.underlying61 rfl Tryd.sizeOf3 rfl (Reg.take rfl rfl (s_ld rfl (hC6.cells.at 4 rfl) Tryd.isAgg3 rfl (Reg.take rfl rfl (Reg.rel (.p fun v w' => RdS (intE .i64) (mm [] M) w' v ([r.made, r.about] : List Int)) [] rfl rfl rfl RSub.nil rfl (nodupB_spec rfl) ?_ (fun v w1 w2 e h => h.adv (Adv.of_ext e)) ?_)))))))))
  ·intro w52 e53; simp only [relOut]; refine s_bs (E := (intE .i64)) (M := mm [] M) (Bb := 0) (xs := ([r.made, r.about] : List Int)) sl36 rfl rfl (Cls.cons rfl (Cls.cons rfl Cls.nil)) (Chs.cons ⟨rfl, f_r_3⟩ (Chs.cons ⟨rfl, f_r_4⟩ Chs.nil)) (hI5.mlt.ext e53) (Nat.zero_le _) rfl rfl ?_; intro a54 w55 x56 _ h57 _; exact Reg.nil ⟨rfl, x56, _, rfl, h57, trivial⟩
  refine Reg.take rfl rfl ?_
  obtain ⟨z61, hz61, h8⟩ := bnd h8
  refine Reg.relC (.bool z61) [(27, _)] rfl rfl (RSub.cons rfl rfl RSub.nil) rfl (nodupB_spec rfl) ?_ ?_
  ·intro w62 e63; simp only [relOut]; intro u58 k59 s60; refine s_call rfl Tryd.call35 rfl ?_; refine (C_account_in (hI5.mlt.ext e63) (by decide) (by decide) k59 hz61).mono ?_; rintro _ w64 ⟨rfl, x65⟩; refine ⟨_, rfl, ?_⟩; exact Reg.nil ⟨rfl, x65, _, rfl, rfl, trivial⟩
  refine Reg.take rfl rfl (s_not rfl rfl (s_pkF rfl rfl rfl (s_mv rfl rfl (Reg.gsplit (t := 31) rfl (fun hg67 => ?_) (fun hg67 => ?_)))))
  ·replace h8 := cdT hg67 h8
   iterate 9 refine Reg.pass rfl rfl rfl rfl ?_
   refine s_pkT rfl rfl rfl (Reg.nilF [] RSub.nil (nodupB_spec rfl) ?_)
   intro w68 e69
   refine Reg.nil ?_
   have hI70 := hI5.ext e69
   obtain rfl := Option.some.inj h8
   refine ⟨rfl, true, ⟨hI70, (Adv.of_ext e69), rfl⟩, sb2 rfl rfl⟩
  replace h8 := cdF hg67 h8
  refine Reg.take rfl rfl (s_fa rfl Tryd.underlying61 rfl Tryd.sizeOf5 rfl (Reg.take rfl rfl (s_ld rfl (hC6.cells.at 5 rfl) Tryd.isAgg5 rfl (Reg.take rfl rfl ?_))))
  obtain ⟨y71, hy71, h8⟩ := bnd h8
  refine s_iaG (k2 := .i64) (hG.adv hI5.adv) rfl rfl hy71 Tryd.underlying131 rfl Tryd.sizeOf3 rfl ?_
  intro hC72
  refine Reg.take rfl rfl (s_ld rfl (hC72.cells.at 0 rfl) Tryd.isAgg3 rfl (Reg.take rfl rfl (s_fa rfl Tryd.underlying61 rfl Tryd.sizeOf3 rfl (Reg.take rfl rfl (s_ld rfl (hC6.cells.at 6 rfl) Tryd.isAgg3 rfl (Reg.take rfl rfl (Reg.rel (.p fun v w' => RdS (intE .i64) (mm [] M) w' v ([r.cents] : List Int)) [] rfl rfl rfl RSub.nil rfl (nodupB_spec rfl) ?_ (fun v w1 w2 e h => h.adv (Adv.of_ext e)) ?_)))))))
  ·intro w73 e74; simp only [relOut]; refine s_bs (E := (intE .i64)) (M := mm [] M) (Bb := 0) (xs := ([r.cents] : List Int)) sl36 rfl rfl (Cls.cons rfl Cls.nil) (Chs.cons ⟨rfl, f_r_6⟩ Chs.nil) (hI5.mlt.ext e74) (Nat.zero_le _) rfl rfl ?_; intro a75 w76 x77 _ h78 _; exact Reg.nil ⟨rfl, x77, _, rfl, h78, trivial⟩
  refine Reg.take rfl rfl ?_
  obtain ⟨z82, hz82, h8⟩ := bnd h8
  refine Reg.relC (.bool z82) [(38, _)] rfl rfl (RSub.cons rfl rfl RSub.nil) rfl (nodupB_spec rfl) ?_ ?_
  ·intro w83 e84; simp only [relOut]; intro u79 k80 s81; refine s_call rfl Tryd.call35 rfl ?_; refine (C_account_in (hI5.mlt.ext e84) (by decide) (glob0_in hy71) k80 hz82).mono ?_; rintro _ w85 ⟨rfl, x86⟩; refine ⟨_, rfl, ?_⟩; exact Reg.nil ⟨rfl, x86, _, rfl, rfl, trivial⟩
  refine Reg.take rfl rfl (s_not rfl rfl (s_pkF rfl rfl rfl (Reg.nilF [] RSub.nil (nodupB_spec rfl) ?_)))
  intro w88 e89
  refine Reg.nil ?_
  have hI90 := hI5.ext e89
  obtain rfl := Option.some.inj h8
  refine ⟨rfl, !z82, ⟨hI90, (Adv.of_ext e89), rfl⟩, sb2 rfl rfl⟩
 rintro x9 w10 ⟨hI11, hA12, rfl⟩
 refine cw_cond rfl (fun hc91 => ?_) (fun hc91 => ?_)
 ·replace h := cdT hc91 h
  refine cw_seq (cw_regF (s_as rfl rfl (Reg.nil (cw_ret ?_))))
  obtain rfl := Option.some.inj h
  refine fin1 Tryd.results50 rfl ?_
  exact ⟨rfl, hI11.kp⟩
 replace h := cdF hc91 h
 refine cw_skip (cw_seq (cw_block (cw_seq (cw_regF (s_lda rfl (hC6.adv hA12).cells Tryd.isAgg61 rfl Tryd.sizeOf61 rfl ?_)))))
 obtain ⟨z92, hz93, h⟩ := bnd h
 refine s_call rfl Tryd.call43 rfl ((C_account_fact (r := (Report.mk r.id r.source r.account r.made r.about r.kind r.cents r.of_)) hI11.mlt f_r_0 f_r_1 f_r_2 f_r_3 f_r_4 f_r_5 f_r_6 f_r_7 hz93).mono ?_)
 rintro _ w94 ⟨rfl, e95⟩
 refine ⟨_, rfl, ?_⟩
 have hI96 := hI11.ext e95
 refine s_as rfl rfl (Reg.nil (cw_cond rfl (fun hc97 => ?_) (fun hc97 => ?_)))
 ·replace h := cdT hc97 h
  refine cw_seq (cw_regF (s_fa rfl Tryd.underlying61 rfl Tryd.sizeOf3 rfl (s_ld rfl ((hC6.adv (hA12.trans (Adv.of_ext e95))).cells.at 7 rfl) Tryd.isAgg3 rfl (s_eql rfl rfl rfl (s_as rfl rfl (Reg.nil (cw_ret ?_)))))))
  obtain rfl := Option.some.inj h
  refine fin1 Tryd.results50 rfl ?_
  exact ⟨rfl, hI96.kp⟩
 replace h := cdF hc97 h
 obtain ⟨j98, h99, h⟩ := bnd h
 refine cw_keep [1] rfl (cw_seqD 0 (ι := Bool) (fun x100 => [(48, Value.bool x100)]) (fun x100 => fun w101 => w94 = w101 ∧ x100 = j98) ?_ ?_)
 ·refine cw_regF (s_fa rfl Tryd.underlying61 rfl Tryd.sizeOf5 rfl (s_ld rfl ((hC6.adv (hA12.trans (Adv.of_ext e95))).cells.at 5 rfl) Tryd.isAgg5 rfl (s_eql rfl rfl rfl (s_mv rfl rfl (Reg.gsplit (t := 52) rfl (fun hg104 => ?_) (fun hg104 => ?_))))))
  ·replace h99 := cdT hg104 h99
   refine Reg.take rfl rfl (s_fa rfl Tryd.underlying61 rfl Tryd.sizeOf3 rfl (Reg.take rfl rfl (s_ld rfl ((hC6.adv (hA12.trans (Adv.of_ext e95))).cells.at 4 rfl) Tryd.isAgg3 rfl (Reg.take rfl rfl (s_neq rfl rfl rfl (s_pkT rfl rfl rfl (s_as rfl rfl (Reg.nil ?_))))))))
   obtain rfl := Option.some.inj h99
   refine ⟨rfl, !decide (r.about = 0), ⟨rfl, rfl⟩, sb2 rfl rfl⟩
  replace h99 := cdF hg104 h99
  iterate 3 refine Reg.pass rfl rfl rfl rfl ?_
  refine s_pkF rfl rfl rfl (s_as rfl rfl (Reg.nil ?_))
  obtain rfl := Option.some.inj h99
  refine ⟨rfl, false, ⟨rfl, rfl⟩, sb2 rfl rfl⟩
 rintro x100 _ ⟨rfl, rfl⟩
 refine cw_cond rfl (fun hc105 => ?_) (fun hc105 => ?_)
 ·replace h := cdT hc105 h
  refine cw_seq (cw_regF (s_as rfl rfl (Reg.nil (cw_ret ?_))))
  obtain rfl := Option.some.inj h
  refine fin1 Tryd.results50 rfl ?_
  exact ⟨rfl, hI96.kp⟩
 replace h := cdF hc105 h
 refine cw_skip (cw_seq (cw_regF (s_fa rfl Tryd.underlying61 rfl Tryd.sizeOf3 rfl (s_ld rfl ((hC6.adv (hA12.trans (Adv.of_ext e95))).cells.at 7 rfl) Tryd.isAgg3 rfl (s_fa rfl Tryd.underlying61 rfl Tryd.sizeOf3 rfl (s_ld rfl ((hC6.adv (hA12.trans (Adv.of_ext e95))).cells.at 0 rfl) Tryd.isAgg3 rfl (s_neq rfl rfl rfl (s_as rfl rfl (Reg.nil (cw_ret ?_))))))))))
 obtain rfl := Option.some.inj h
 refine fin1 Tryd.results50 rfl ?_
 exact ⟨rfl, hI96.kp⟩
noncomputable def P.account_Check_in1 (r : Report) : Option Bool :=
  Option.bind (P.account_right (Report.mk r.id r.source r.account r.made r.about r.kind r.cents r.of_)) fun z7 => some (!z7)
theorem C_account_Check_in1 {M : List Nat} {w : World} (hM : MLt M w) (hG : RdC M w 0 0 (glob0.map (Value.int .i64))) {r : Report} (f_r_0 : InK .i64 r.id) (f_r_1 : InK .i64 r.source) (f_r_2 : InK .i64 r.account) (f_r_3 : InK .i64 r.made) (f_r_4 : InK .i64 r.about) (f_r_5 : InK .u8 r.kind) (f_r_6 : InK .i64 r.cents) (f_r_7 : InK .i64 r.of_) {r0 : Bool} (h : P.account_Check_in1 r = some r0) :
  Calls Tryd.prog 49 (List.toArray [Value.agg (List.toArray (vR r))]) w fun e w' => e = .returned (Value.bool r0) ∧ Ext w w' := by
 have hI := Hp.start (Mu := []) hM
 refine calls_cw Tryd.func49 rfl Tryd.ntmps49 rfl ?_
 refine cw_seq (cw_regF (y_box hI rfl rfl rfl ?_))
 intro b1 w2 hI3 x4
 have hC6 := hI3.freezeRow 0 rfl
 have hI5 := hI3.erase 0
 refine s_as rfl rfl (Reg.nil (cw_seq (cw_regF (s_lda rfl hC6.cells Tryd.isAgg61 rfl Tryd.sizeOf61 rfl ?_))))
 obtain ⟨z7, hz8, h⟩ := bnd h
 refine s_call rfl Tryd.call50 rfl ((C_account_right (r := (Report.mk r.id r.source r.account r.made r.about r.kind r.cents r.of_)) hI5.mlt (hG.adv hI5.adv) f_r_0 f_r_1 f_r_2 f_r_3 f_r_4 f_r_5 f_r_6 f_r_7 hz8).mono ?_)
 rintro _ w9 ⟨rfl, e10⟩
 refine ⟨_, rfl, ?_⟩
 have hI11 := hI5.ext e10
 refine s_not rfl rfl (s_as rfl rfl (Reg.nil (cw_ret ?_)))
 obtain rfl := Option.some.inj h
 refine fin1 Tryd.results49 rfl ?_
 exact ⟨rfl, hI11.kp⟩
noncomputable def P.account_Check (l : (List Report)) : Option Int :=
  cond (decide (60 < (l.length : Int))) (some 4) (Option.bind (P.slices_ContainsFunc_48 l (fun x0_ => P.account_Check_in1 x0_)) fun z2 => cond z2 (some 30) (Option.bind (loopM (S := Int × (FMap Int Report)) (R := ((FMap Int Report)) ⊕ (Int)) (fun (x12, x13) => cond (decide (x12 < (l.length : Int))) (Option.bind (ixo l x12) fun y15 => Option.bind (some ((x13 y15.id).getD (Report.mk 0 0 0 0 0 0 0 0))) fun y38 => Option.bind (cond ((x13 y15.id).isSome) (some (!decide ((Report.mk y38.id y38.source y38.account y38.made y38.about y38.kind y38.cents y38.of_) = (Report.mk y15.id y15.source y15.account y15.made y15.about y15.kind y15.cents y15.of_)))) (some false)) fun x61 => cond x61 (some (.inr (.inr 31))) (Option.bind (chk .i64 (x12 + 1)) fun n66 => some (.inl (n66, (fput x13 y15.id (Report.mk y15.id y15.source y15.account y15.made y15.about y15.kind y15.cents y15.of_)))))) (some (.inr (.inl x13)))) (0, fnone)) fun j67 => Sum.elim (fun x68 => some 0) (fun r69 => some r69)  j67))
theorem C_account_Check {M : List Nat} {w : World} (hM : MLt M w) (hG : RdC M w 0 0 (glob0.map (Value.int .i64))) {l : (List Report)} {v_l_0 : Value} (f_l_0 : RdS ReportE M w v_l_0 l) {r0 : Int} (h : P.account_Check l = some r0) :
  Calls Tryd.prog 17 (List.toArray [v_l_0]) w fun e w' => e = .returned (vi r0) ∧ InK .i64 r0 ∧ Ext w w' := by
 have hI := Hp.start (Mu := []) hM
 refine calls_cw Tryd.func17 rfl Tryd.ntmps17 rfl ?_
 refine cw_seq (cw_regF (s_as rfl rfl (Reg.nil (cw_seq (cw_seq (cw_regF (s_mv rfl rfl (s_len rfl f_l_0 Tryd.underlying22 rfl (s_gtr rfl rfl rfl (Reg.nil (cw_cond rfl (fun hc1 => ?_) (fun hc1 => ?_))))))))))))
 ·replace h := cdT hc1 h
  refine cw_seq (cw_regF (s_as rfl rfl (Reg.nil (cw_ret ?_))))
  obtain rfl := Option.some.inj h
  refine fin1 Tryd.results17 rfl ?_
  exact ⟨rfl, (by decide), hI.kp⟩
 replace h := cdF hc1 h
 refine cw_skip (cw_seq (cw_seq (cw_regF (s_mv rfl rfl ?_))))
 obtain ⟨z2, hz3, h⟩ := bnd h
 refine s_call rfl Tryd.call48 rfl ((C_slices_ContainsFunc_48 hI.mlt f_l_0 (fun a0 r w9 e9 f0 f1 f2 f3 f4 f5 f6 f7 hr => CallsV.ofL Tryd.call49 rfl (C_account_Check_in1 (hI.mlt.ext e9) (hG.adv (Adv.of_ext e9)) f0 f1 f2 f3 f4 f5 f6 f7 hr)) hz3).mono ?_)
 rintro _ w4 ⟨rfl, e5⟩
 refine ⟨_, rfl, ?_⟩
 have hI6 := hI.ext e5
 refine Reg.nil (cw_cond rfl (fun hc7 => ?_) (fun hc7 => ?_))
 ·replace h := cdT hc7 h
  refine cw_seq (cw_regF (s_as rfl rfl (Reg.nil (cw_ret ?_))))
  obtain rfl := Option.some.inj h
  refine fin1 Tryd.results17 rfl ?_
  exact ⟨rfl, (by decide), hI6.kp⟩
 replace h := cdF hc7 h
 refine cw_skip (cw_seq (cw_regF (y_mkF Ky3 ReportE true hI6 rfl ?_)))
 intro b8 w9 hI10 x11
 refine s_as rfl rfl (Reg.nil (cw_seq (cw_seq (cw_regF (s_mv rfl rfl (s_len rfl (f_l_0.adv hI10.adv) Tryd.underlying22 rfl (s_mv rfl rfl (Reg.nil ?_))))))))
 obtain ⟨j12, h13, h⟩ := bnd h
 refine cw_keep [3, 14, 15, 16] rfl (cw_unitD 4 (ι := (FMap Int Report)) (fun x14 => []) (fun x14 => fun w15 => Hp w [] M [mapO Ky3 ReportE true b8 x14] w15 ∧ Adv (mm [mapO Ky3 ReportE true b8 fnone] M) (mm [mapO Ky3 ReportE true b8 x14] M) w9 w15 ∧ (.inl x14) = j12) ?_ ?_)
 ·refine cw_block (cw_keep [16, 3, 14, 15] rfl ?_)
  refine cw_loopM 1 (ι := Int × (FMap Int Report)) _ (fun ⟨x18, x20⟩ => [(16, vi x18)]) (fun ⟨x18, x20⟩ => (x18, x20)) (fun ⟨x18, x20⟩ => fun w21 => Hp w [] M [mapO Ky3 ReportE true b8 x20] w21 ∧ Adv (mm [mapO Ky3 ReportE true b8 fnone] M) (mm [mapO Ky3 ReportE true b8 x20] M) w9 w21 ∧ InK .i64 x18) (0, fnone) h13 ⟨hI10, (Adv.refl _ _), (by decide)⟩ (sb4 rfl rfl rfl rfl) ?_
  rintro ⟨x18, x20⟩ w21 ⟨hI22, hA23, r19⟩ y24 h25 hR26
  refine cw_seq (cw_regF (s_lss rfl rfl rfl (Reg.nil (cw_seq (cw_cond rfl (fun hc27 => ?_) (fun hc27 => ?_))))))
  ·replace h25 := cdT hc27 h25
   refine cw_skip (cw_seq (cw_block (cw_seq (cw_regF ?_))))
   obtain ⟨y28, hy28, h25⟩ := bnd h25
   refine p_ia rfl rfl (f_l_0.adv hI22.adv) hy28 Tryd.underlying22 Tryd.sizeOf61 rfl ?_
   intro b29 o30 cs31 hR32 hC33
   obtain ⟨rfl, r34, r35, r36, r37, r38, r39, r40, r41⟩ := ReportE_R.1 hR32
   refine s_lda rfl hC33.cells Tryd.isAgg61 rfl Tryd.sizeOf61 rfl (y_al hI22 Tryd.zeroValue61 rfl rfl ?_)
   intro b42 w43 hI44 x45
   refine y_st 0 hI44 rfl rfl rfl rfl Tryd.sizeOf61 rfl rfl (on8 rfl rfl rfl rfl rfl rfl rfl rfl) ?_
   intro w46 hI47 x48
   have hC50 := hI47.freezeRow 0 rfl
   have hI49 := hI47.erase 0
   refine Reg.nil (cw_seq (cw_seq (cw_regF (s_mv rfl rfl (s_fa rfl Tryd.underlying61 rfl Tryd.sizeOf3 rfl (s_ld rfl (hC50.cells.at 0 rfl) Tryd.isAgg3 rfl ?_))))))
   obtain ⟨y51, hy51, h25⟩ := bnd h25
   refine y_lkF 0 (a := y28.id) (z0 := (Report.mk 0 0 0 0 0 0 0 0)) hI49 rfl rfl rfl (show InK .i64 y28.id from r34) Tryd.underlying88 Tryd.zeroValue61 ⟨_, ((ReportE_R (x := (Report.mk 0 0 0 0 0 0 0 0))).2 ⟨rfl, (show InK .i64 0 by decide), (show InK .i64 0 by decide), (show InK .i64 0 by decide), (show InK .i64 0 by decide), (show InK .i64 0 by decide), (show InK .u8 0 by decide), (show InK .i64 0 by decide), (show InK .i64 0 by decide)⟩), .inl ⟨rfl, rfl⟩⟩ rfl ?_
   intro v52 hv53
   rw [Option.some.inj hy51] at hv53
   obtain ⟨cs54, hR55, rfl⟩ := Vl.agg hv53
   obtain ⟨rfl, r56, r57, r58, r59, r60, r61, r62, r63⟩ := ReportE_R.1 hR55
   refine s_mv rfl rfl (s_xt rfl rfl rfl (s_xt rfl rfl rfl (y_al hI49 Tryd.zeroValue61 rfl rfl ?_)))
   intro b64 w65 hI66 x67
   refine y_st 0 hI66 rfl rfl rfl rfl Tryd.sizeOf61 rfl rfl (on8 rfl rfl rfl rfl rfl rfl rfl rfl) ?_
   intro w68 hI69 x70
   have hC72 := hI69.freezeRow 0 rfl
   have hI71 := hI69.erase 0
   refine s_as rfl rfl (Reg.nil ?_)
   obtain ⟨j73, h74, h25⟩ := bnd h25
   refine cw_keep [6, 7, 3, 5, 14, 15, 16] rfl (cw_seqD 2 (ι := Bool) (fun x75 => [(32, Value.bool x75)]) (fun x75 => fun w76 => w68 = w76 ∧ x75 = j73) ?_ ?_)
   ·refine cw_regF (s_mv rfl rfl (s_mv rfl rfl (Reg.gsplit (t := 28) rfl (fun hg79 => ?_) (fun hg79 => ?_))))
    ·replace h74 := cdT hg79 h74
     refine Reg.take rfl rfl (s_lda rfl hC72.cells Tryd.isAgg61 rfl Tryd.sizeOf61 rfl (Reg.take rfl rfl (s_lda rfl (hC50.adv (x67.trans (x70.trans (hI69.eraseH 0)))).cells Tryd.isAgg61 rfl Tryd.sizeOf61 rfl (Reg.take rfl rfl (s_neS (Report_eq (Report.mk y51.id y51.source y51.account y51.made y51.about y51.kind y51.cents y51.of_) (Report.mk y28.id y28.source y28.account y28.made y28.about y28.kind y28.cents y28.of_)) Tryd.eqGuardType61 rfl rfl rfl ?_)))))
     refine s_pkT rfl rfl rfl (Reg.nil ?_)
     obtain rfl := Option.some.inj h74
     refine ⟨rfl, !decide ((Report.mk y51.id y51.source y51.account y51.made y51.about y51.kind y51.cents y51.of_) = (Report.mk y28.id y28.source y28.account y28.made y28.about y28.kind y28.cents y28.of_)), ⟨rfl, rfl⟩, sb6 rfl rfl rfl rfl rfl rfl⟩
    replace h74 := cdF hg79 h74
    iterate 3 refine Reg.pass rfl rfl rfl rfl ?_
    refine s_pkF rfl rfl rfl (Reg.nil ?_)
    obtain rfl := Option.some.inj h74
    refine ⟨rfl, false, ⟨rfl, rfl⟩, sb6 rfl rfl rfl rfl rfl rfl⟩
   rintro x75 _ ⟨rfl, rfl⟩
   refine cw_cond rfl (fun hc80 => ?_) (fun hc80 => ?_)
   ·replace h25 := cdT hc80 h25
    refine cw_seq (cw_regF (s_as rfl rfl (Reg.nil (cw_ret ?_))))
    obtain rfl := Option.some.inj h25
    obtain rfl := hR26 _ rfl
    replace h := elimR h
    obtain rfl := Option.some.inj h
    refine fin1 Tryd.results17 rfl ?_
    exact ⟨rfl, (by decide), hI71.kp⟩
   replace h25 := cdF hc80 h25
   refine cw_skip (cw_regF (s_mv rfl rfl (s_fa rfl Tryd.underlying61 rfl Tryd.sizeOf3 rfl (s_ld rfl ((hC50.adv (x67.trans (x70.trans (hI69.eraseH 0)))).cells.at 0 rfl) Tryd.isAgg3 rfl (s_lda rfl (hC50.adv (x67.trans (x70.trans (hI69.eraseH 0)))).cells Tryd.isAgg61 rfl Tryd.sizeOf61 rfl (y_upF 0 (a := y28.id) (z := (Report.mk y28.id y28.source y28.account y28.made y28.about y28.kind y28.cents y28.of_)) hI71 rfl rfl rfl (show InK .i64 y28.id from r34) rfl ⟨_, ((ReportE_R (x := (Report.mk y28.id y28.source y28.account y28.made y28.about y28.kind y28.cents y28.of_))).2 ⟨rfl, r34, r35, r36, r37, r38, r39, r40, r41⟩), .inl ⟨rfl, rfl⟩⟩ Tryd.underlying88 ?_))))))
   intro w81 hI82 x83
   refine Reg.nil (cw_regF ?_)
   obtain ⟨n84, hn84, h25⟩ := bnd h25
   replace hn84 := chk_out hn84
   refine p_add rfl rfl rfl hn84 (s_mv rfl rfl (Reg.nil ?_))
   obtain rfl := Option.some.inj h25
   refine ⟨rfl, (n84, (fput x20 y28.id (Report.mk y28.id y28.source y28.account y28.made y28.about y28.kind y28.cents y28.of_))), ⟨⟨hI82, (hA23.trans (x45.trans (x48.trans ((hI47.eraseH 0).trans (x67.trans (x70.trans ((hI69.eraseH 0).trans x83))))))), hn84.2⟩, rfl⟩, sb4 rfl rfl rfl rfl⟩
  replace h25 := cdF hc27 h25
  refine cw_exit (exB_same ?_)
  obtain rfl := Option.some.inj h25
  obtain rfl := hR26 _ rfl
  refine ⟨rfl, x20, ⟨hI22, hA23, rfl⟩, Sub.nil _⟩
 rintro x14 w15 ⟨hI16, hA17, rfl⟩
 replace h := elimL h
 refine cw_seq (cw_regF (s_as rfl rfl (Reg.nil (cw_ret ?_))))
 obtain rfl := Option.some.inj h
 refine fin1 Tryd.results17 rfl ?_
 exact ⟨rfl, (by decide), hI16.kp⟩
end Go.Proofs.YtepjkmoipjeghaaDoor
set_option maxRecDepth 20000
set_option maxHeartbeats 4000000
namespace Go.Proofs.YtepjkmoipjeghaaDoor
open Go Go.Sx Go.RowKit
variable [Trk]
noncomputable def P.cmp_isNaN_92 (x : Int) : Option Bool :=
  some (!decide (x = x))
theorem C_cmp_isNaN_92 {M : List Nat} {w : World} (hM : MLt M w) {x : Int} (f_x_0 : InK .i64 x) {r0 : Bool} (h : P.cmp_isNaN_92 x = some r0) :
  Calls Tryd.prog 92 (List.toArray [vi x]) w fun e w' => e = .returned (Value.bool r0) ∧ Ext w w' := by
 have hI := Hp.start (Mu := []) hM
 refine calls_cw Tryd.func92 rfl Tryd.ntmps92 rfl ?_
 refine cw_seq (cw_regF (s_as rfl rfl (Reg.nil (cw_seq (cw_regF (s_mv rfl rfl (s_mv rfl rfl (s_neq rfl rfl rfl (s_as rfl rfl (Reg.nil (cw_ret ?_)))))))))))
 obtain rfl := Option.some.inj h
 refine fin1 Tryd.results92 rfl ?_
 exact ⟨rfl, hI.kp⟩
noncomputable def P.cmp_Compare_72 (x : Int) (y : Int) : Option Int :=
  Option.bind (P.cmp_isNaN_92 x) fun z1 => Option.bind (P.cmp_isNaN_92 y) fun z6 => cond z1 (cond z6 (some 0) (some (-1))) (cond z6 (some 1) (cond (decide (x < y)) (some (-1)) (cond (decide (y < x)) (some 1) (some 0))))
theorem C_cmp_Compare_72 {M : List Nat} {w : World} (hM : MLt M w) {x : Int} (f_x_0 : InK .i64 x) {y : Int} (f_y_0 : InK .i64 y) {r0 : Int} (h : P.cmp_Compare_72 x y = some r0) :
  Calls Tryd.prog 72 (List.toArray [vi x, vi y]) w fun e w' => e = .returned (vi r0) ∧ InK .i64 r0 ∧ Ext w w' := by
 have hI := Hp.start (Mu := []) hM
 refine calls_cw Tryd.func72 rfl Tryd.ntmps72 rfl ?_
 refine cw_seq (cw_regF (s_as rfl rfl (Reg.nil (cw_seq (cw_regF (s_mv rfl rfl ?_))))))
 obtain ⟨z1, hz2, h⟩ := bnd h
 refine s_call rfl Tryd.call92 rfl ((C_cmp_isNaN_92 hI.mlt f_x_0 hz2).mono ?_)
 rintro _ w3 ⟨rfl, e4⟩
 refine ⟨_, rfl, ?_⟩
 have hI5 := hI.ext e4
 refine s_as rfl rfl (Reg.nil (cw_seq (cw_regF (s_mv rfl rfl ?_))))
 obtain ⟨z6, hz7, h⟩ := bnd h
 refine s_call rfl Tryd.call92 rfl ((C_cmp_isNaN_92 hI5.mlt f_y_0 hz7).mono ?_)
 rintro _ w8 ⟨rfl, e9⟩
 refine ⟨_, rfl, ?_⟩
 have hI10 := hI5.ext e9
 refine s_as rfl rfl (Reg.nil (cw_seq (cw_seq (cw_regF (s_mv rfl rfl (Reg.nil (cw_cond rfl (fun hc11 => ?_) (fun hc11 => ?_))))))))
 ·replace h := cdT hc11 h
  refine cw_seq (cw_seq (cw_regF (s_mv rfl rfl (Reg.nil (cw_cond rfl (fun hc12 => ?_) (fun hc12 => ?_))))))
  ·replace h := cdT hc12 h
   refine cw_seq (cw_regF (s_as rfl rfl (Reg.nil (cw_ret ?_))))
   obtain rfl := Option.some.inj h
   refine fin1 Tryd.results72 rfl ?_
   exact ⟨rfl, (by decide), hI10.kp⟩
  replace h := cdF hc12 h
  refine cw_skip (cw_seq (cw_regF (s_as rfl rfl (Reg.nil (cw_ret ?_)))))
  obtain rfl := Option.some.inj h
  refine fin1 Tryd.results72 rfl ?_
  exact ⟨rfl, (by decide), hI10.kp⟩
 replace h := cdF hc11 h
 refine cw_skip (cw_seq (cw_seq (cw_regF (s_mv rfl rfl (Reg.nil (cw_cond rfl (fun hc13 => ?_) (fun hc13 => ?_)))))))
 ·replace h := cdT hc13 h
  refine cw_seq (cw_regF (s_as rfl rfl (Reg.nil (cw_ret ?_))))
  obtain rfl := Option.some.inj h
  refine fin1 Tryd.results72 rfl ?_
  exact ⟨rfl, (by decide), hI10.kp⟩
 replace h := cdF hc13 h
 refine cw_skip (cw_seq (cw_seq (cw_regF (s_mv rfl rfl (s_mv rfl rfl (s_lss rfl rfl rfl (Reg.nil (cw_cond rfl (fun hc14 => ?_) (fun hc14 => ?_)))))))))
 ·replace h := cdT hc14 h
  refine cw_seq (cw_regF (s_as rfl rfl (Reg.nil (cw_ret ?_))))
  obtain rfl := Option.some.inj h
  refine fin1 Tryd.results72 rfl ?_
  exact ⟨rfl, (by decide), hI10.kp⟩
 replace h := cdF hc14 h
 refine cw_skip (cw_seq (cw_seq (cw_regF (s_mv rfl rfl (s_mv rfl rfl (s_gtr rfl rfl rfl (Reg.nil (cw_cond rfl (fun hc15 => ?_) (fun hc15 => ?_)))))))))
 ·replace h := cdT hc15 h
  refine cw_seq (cw_regF (s_as rfl rfl (Reg.nil (cw_ret ?_))))
  obtain rfl := Option.some.inj h
  refine fin1 Tryd.results72 rfl ?_
  exact ⟨rfl, (by decide), hI10.kp⟩
 replace h := cdF hc15 h
 refine cw_skip (cw_seq (cw_regF (s_as rfl rfl (Reg.nil (cw_ret ?_)))))
 obtain rfl := Option.some.inj h
 refine fin1 Tryd.results72 rfl ?_
 exact ⟨rfl, (by decide), hI10.kp⟩
noncomputable def P.cmp_Or_71 (vals : (List Int)) : Option Int :=
  Option.bind (loopM (S := Int) (R := (Unit) ⊕ (Int)) (fun x1 => cond (decide (x1 < (vals.length : Int))) (Option.bind (ixo vals x1) fun y3 => cond (!decide (y3 = 0)) (some (.inr (.inr y3))) (Option.bind (chk .i64 (x1 + 1)) fun n11 => some (.inl n11))) (some (.inr (.inl ())))) 0) fun j12 => Sum.elim (fun _ => some 0) (fun r13 => some r13)  j12
theorem C_cmp_Or_71 {M : List Nat} {w : World} (hM : MLt M w) {vals : (List Int)} {v_vals_0 : Value} (f_vals_0 : RdS (intE .i64) M w v_vals_0 vals) {r0 : Int} (h : P.cmp_Or_71 vals = some r0) :
  Calls Tryd.prog 71 (List.toArray [v_vals_0]) w fun e w' => e = .returned (vi r0) ∧ InK .i64 r0 ∧ Ext w w' := by
 have hI := Hp.start (Mu := []) hM
 refine calls_cw Tryd.func71 rfl Tryd.ntmps71 rfl ?_
 refine cw_seq (cw_regF (s_as rfl rfl (Reg.nil (cw_seq (cw_regF (s_as rfl rfl (Reg.nil (cw_seq (cw_seq (cw_regF (s_mv rfl rfl ?_)))))))))))
 refine s_len rfl f_vals_0 Tryd.underlying36 rfl (s_mv rfl rfl (Reg.nil ?_))
 obtain ⟨j1, h2, h⟩ := bnd h
 refine cw_keep [6, 7, 8, 3] rfl (cw_unitD 3 (ι := Unit) (fun _ => []) (fun _ => fun w3 => w = w3 ∧ (.inl ()) = j1) ?_ ?_)
 ·refine cw_block (cw_keep [8, 3, 6, 7] rfl ?_)
  refine cw_loopM 1 (ι := Int) _ (fun x6 => [(8, vi x6)]) (fun x6 => x6) (fun x6 => fun w8 => w = w8 ∧ InK .i64 x6) 0 h2 ⟨rfl, (by decide)⟩ (sb4 rfl rfl rfl rfl) ?_
  rintro x6 _ ⟨rfl, r7⟩ y11 h12 hR13
  refine cw_seq (cw_regF (s_lss rfl rfl rfl (Reg.nil (cw_seq (cw_cond rfl (fun hc14 => ?_) (fun hc14 => ?_))))))
  ·replace h12 := cdT hc14 h12
   refine cw_skip (cw_seq (cw_block (cw_seq (cw_regF ?_))))
   obtain ⟨y15, hy15, h12⟩ := bnd h12
   refine p_ia rfl rfl f_vals_0 hy15 Tryd.underlying36 Tryd.sizeOf3 rfl ?_
   intro b16 o17 cs18 hR19 hC20
   obtain ⟨rfl, r21⟩ := hR19
   refine s_ld rfl (hC20.cells.at 0 rfl) Tryd.isAgg3 rfl (s_as rfl rfl (Reg.nil (cw_seq (cw_regF (s_mv rfl rfl (s_mv rfl rfl (s_neq rfl rfl rfl (Reg.nil (cw_cond rfl (fun hc22 => ?_) (fun hc22 => ?_))))))))))
   ·replace h12 := cdT hc22 h12
    refine cw_seq (cw_regF (s_mv rfl rfl (s_as rfl rfl (Reg.nil (cw_ret ?_)))))
    obtain rfl := Option.some.inj h12
    obtain rfl := hR13 _ rfl
    replace h := elimR h
    obtain rfl := Option.some.inj h
    refine fin1 Tryd.results71 rfl ?_
    exact ⟨rfl, r21, hI.kp⟩
   replace h12 := cdF hc22 h12
   refine cw_skip (cw_regF ?_)
   obtain ⟨n23, hn23, h12⟩ := bnd h12
   replace hn23 := chk_out hn23
   refine p_add rfl rfl rfl hn23 (s_mv rfl rfl (Reg.nil ?_))
   obtain rfl := Option.some.inj h12
   refine ⟨rfl, n23, ⟨⟨rfl, hn23.2⟩, rfl⟩, sb4 rfl rfl rfl rfl⟩
  replace h12 := cdF hc14 h12
  refine cw_exit (exB_same ?_)
  obtain rfl := Option.some.inj h12
  obtain rfl := hR13 _ rfl
  refine ⟨rfl, (), ⟨rfl, rfl⟩, sb1 rfl⟩
 rintro _ _ ⟨rfl, rfl⟩
 replace h := elimL h
 refine cw_seq (cw_regF (s_mv rfl rfl (s_as rfl rfl (Reg.nil (cw_ret ?_)))))
 obtain rfl := Option.some.inj h
 refine fin1 Tryd.results71 rfl ?_
 exact ⟨rfl, (by decide), hI.kp⟩
noncomputable def P.account_open (l : (List Report)) (known : Int) : Option Desk :=
  Option.bind (loopM (S := Int × (FMap Int Report)) (R := ((FMap Int Report))) (fun (x24, x25) => cond (decide (x24 < (l.length : Int))) (Option.bind (Option.bind (ixo l x24) fun y27 => Option.bind (cond (decide (y27.made ≤ known)) (some (fput x25 y27.id (Report.mk y27.id y27.source y27.account y27.made y27.about y27.kind y27.cents y27.of_))) (some x25)) fun x54 => some x54) fun x55 => Option.bind (chk .i64 (x24 + 1)) fun n56 => some (.inl (n56, x55))) (some (.inr x25))) (0, fnone)) fun x57 => Option.bind (anyM (S := (FMap Int Int)) (fun x70 (y71 : Int × Report) => Option.bind (Option.bind (P.account_store_aim (Store.mk x57) (Report.mk y71.2.id y71.2.source y71.2.account y71.2.made y71.2.about y71.2.kind y71.2.cents y71.2.of_)) fun (z96, z97) => Option.bind (cond (decide (y71.2.kind = 9)) (cond z97 (some (!decide (z96.kind = 9))) (some false)) (some false)) fun x121 => Option.bind (cond x121 (Option.bind (some ((x70 z96.id).getD 0)) fun y123 => Option.bind (cond (!((x70 z96.id).isSome)) (some true) (some (decide (y71.2.id < y123)))) fun x129 => Option.bind (cond x129 (some (fput x70 z96.id y71.2.id)) (some x70)) fun x134 => some x134) (some x70)) fun x135 => some x135) fun x136 => some x136) x57 fnone) fun x137 => Option.bind (anyM (S := (FMap Int Int)) (fun x148 (y149 : Int × Report) => Option.bind (Option.bind (P.account_store_aim (Store.mk x57) (Report.mk y149.2.id y149.2.source y149.2.account y149.2.made y149.2.about y149.2.kind y149.2.cents y149.2.of_)) fun (z174, z175) => Option.bind (cond (!decide (y149.2.kind = 8)) (some true) (cond (!z175) (some true) (Option.bind (P.account_fact (Report.mk z174.id z174.source z174.account z174.made z174.about z174.kind z174.cents z174.of_)) fun z205 => cond (!z205) (some true) (Option.bind (ixo glob0 z174.kind) fun y213 => Option.bind (P.account_in 0 y213 ([y149.2.cents] : List Int)) fun z224 => cond (!z224) (some true) (Option.bind (P.account_desk_away (Desk.mk (Store.mk x57) x137 x148) y149.2.id) fun z234 => cond z234 (some true) (Option.bind (P.account_desk_away (Desk.mk (Store.mk x57) x137 x148) z174.id) fun z242 => some z242)))))) fun x249 => cond x249 (some x148) (Option.bind (some ((x148 z174.id).getD 0)) fun y251 => Option.bind (some ((x57 y251).getD (Report.mk 0 0 0 0 0 0 0 0))) fun y256 => Option.bind (cond (!((x148 z174.id).isSome)) (some true) (Option.bind (P.cmp_Compare_72 y256.made y149.2.made) fun z282 => Option.bind (P.cmp_Compare_72 y251 y149.2.id) fun z287 => Option.bind (P.cmp_Or_71 ([z282, z287] : List Int)) fun z301 => Option.bind (chk .i64 z301) fun n307 => some (decide (z301 < 0)))) fun x311 => Option.bind (cond x311 (some (fput x148 z174.id y149.2.id)) (some x148)) fun x316 => some x316)) fun x317 => some x317) x57 fnone) fun x318 => some (Desk.mk (Store.mk x57) x137 x318)
theorem C_account_open {M : List Nat} {w : World} (hM : MLt M w) (hG : RdC M w 0 0 (glob0.map (Value.int .i64))) {l : (List Report)} {v_l_0 : Value} (f_l_0 : RdS ReportE M w v_l_0 l) {known : Int} (f_known_0 : InK .i64 known) {r0 : Desk} (h : P.account_open l known = some r0) :
  Calls Tryd.prog 37 (List.toArray [v_l_0, vi known]) w fun e w' => ∃ v0_0 : Value, ∃ v0_1 : Value, ∃ v0_2 : Value, e = .returned (Value.agg (List.toArray [v0_0, v0_1, v0_2])) ∧ RdF Ky3 ReportE true M w' v0_0 r0.store.reports ∧ RdF Ky3 (intE .i64) false M w' v0_1 r0.gone ∧ RdF Ky3 (intE .i64) false M w' v0_2 r0.fixed ∧ Ext w w' := by
 have hI := Hp.start (Mu := []) hM
 refine calls_cw Tryd.func37 rfl Tryd.ntmps37 rfl ?_
 refine cw_seq (cw_regF (y_al hI Tryd.zeroValue92 rfl rfl ?_))
 intro b1 w2 hI3 x4
 refine Reg.nil (cw_seq (cw_regF (y_mkF Ky3 ReportE true hI3 rfl ?_)))
 intro b5 w6 hI7 x8
 refine s_bd [(0, 1)] Tryd.zeroValue90 rfl Tryd.underlying90 (fun _ => by simp [Tryd.sizeOf88]) rfl (Cls.cons rfl (Cls.nil)) rfl rfl ?_
 refine y_mkF Ky3 (intE .i64) false hI7 rfl ?_
 intro b9 w10 hI11 x12
 refine y_mkF Ky3 (intE .i64) false hI11 rfl ?_
 intro b13 w14 hI15 x16
 refine s_bd [(0, 1), (1, 1), (2, 1)] Tryd.zeroValue92 rfl Tryd.underlying92 (fun _ => by simp [Tryd.sizeOf79, Tryd.sizeOf90]) rfl (Cls.cons rfl (Cls.cons rfl (Cls.cons rfl (Cls.nil)))) rfl rfl ?_
 refine y_al hI15 Tryd.zeroValue92 rfl rfl ?_
 intro b17 w18 hI19 x20
 refine y_st 0 hI19 rfl rfl rfl rfl Tryd.sizeOf92 rfl rfl (on3 rfl rfl rfl) ?_
 intro w21 hI22 x23
 refine Reg.nil (cw_seq (cw_seq (cw_regF (s_mv rfl rfl (s_len rfl (f_l_0.adv hI22.adv) Tryd.underlying22 rfl (s_mv rfl rfl (Reg.nil ?_)))))))
 obtain ⟨j24, h25, h⟩ := bnd h
 refine cw_keep [1, 26, 27, 28, 4, 5] rfl (cw_unitD 4 (ι := (FMap Int Report)) (fun x26 => []) (fun x26 => fun w27 => Hp w [] M [rowR 92 b17 [Value.map (some b5), Value.map (some b9), Value.map (some b13)], mapO Ky3 (intE .i64) false b13 fnone, mapO Ky3 (intE .i64) false b9 fnone, mapO Ky3 ReportE true b5 x26, rowR 92 b1 [Value.map none, Value.map none, Value.map none]] w27 ∧ Adv (mm [rowR 92 b17 [Value.map (some b5), Value.map (some b9), Value.map (some b13)], mapO Ky3 (intE .i64) false b13 fnone, mapO Ky3 (intE .i64) false b9 fnone, mapO Ky3 ReportE true b5 fnone, rowR 92 b1 [Value.map none, Value.map none, Value.map none]] M) (mm [rowR 92 b17 [Value.map (some b5), Value.map (some b9), Value.map (some b13)], mapO Ky3 (intE .i64) false b13 fnone, mapO Ky3 (intE .i64) false b9 fnone, mapO Ky3 ReportE true b5 x26, rowR 92 b1 [Value.map none, Value.map none, Value.map none]] M) w21 w27 ∧ x26 = j24) ?_ ?_)
 ·refine cw_block (cw_keep [28, 1, 4, 5, 26, 27] rfl ?_)
  refine cw_loopM 1 (ι := Int × (FMap Int Report)) _ (fun ⟨x30, x32⟩ => [(28, vi x30)]) (fun ⟨x30, x32⟩ => (x30, x32)) (fun ⟨x30, x32⟩ => fun w33 => Hp w [] M [rowR 92 b17 [Value.map (some b5), Value.map (some b9), Value.map (some b13)], mapO Ky3 (intE .i64) false b13 fnone, mapO Ky3 (intE .i64) false b9 fnone, mapO Ky3 ReportE true b5 x32, rowR 92 b1 [Value.map none, Value.map none, Value.map none]] w33 ∧ Adv (mm [rowR 92 b17 [Value.map (some b5), Value.map (some b9), Value.map (some b13)], mapO Ky3 (intE .i64) false b13 fnone, mapO Ky3 (intE .i64) false b9 fnone, mapO Ky3 ReportE true b5 fnone, rowR 92 b1 [Value.map none, Value.map none, Value.map none]] M) (mm [rowR 92 b17 [Value.map (some b5), Value.map (some b9), Value.map (some b13)], mapO Ky3 (intE .i64) false b13 fnone, mapO Ky3 (intE .i64) false b9 fnone, mapO Ky3 ReportE true b5 x32, rowR 92 b1 [Value.map none, Value.map none, Value.map none]] M) w21 w33 ∧ InK .i64 x30) (0, fnone) h25 ⟨hI22, (Adv.refl _ _), (by decide)⟩ (sb6 rfl rfl rfl rfl rfl rfl) ?_
  rintro ⟨x30, x32⟩ w33 ⟨hI34, hA35, r31⟩ y36 h37 hR38
  refine cw_seq (cw_regF (s_lss rfl rfl rfl (Reg.nil (cw_seq (cw_cond rfl (fun hc39 => ?_) (fun hc39 => ?_))))))
  ·replace h37 := cdT hc39 h37
   refine cw_skip ?_
   obtain ⟨j40, h41, h37⟩ := bnd h37
   refine cw_keep [1, 4, 5, 26, 27, 28] rfl (cw_seqD 0 (ι := (FMap Int Report)) (fun x42 => []) (fun x42 => fun w43 => Hp w [] M [rowR 92 b17 [Value.map (some b5), Value.map (some b9), Value.map (some b13)], mapO Ky3 (intE .i64) false b13 fnone, mapO Ky3 (intE .i64) false b9 fnone, mapO Ky3 ReportE true b5 x42, rowR 92 b1 [Value.map none, Value.map none, Value.map none]] w43 ∧ Adv (mm [rowR 92 b17 [Value.map (some b5), Value.map (some b9), Value.map (some b13)], mapO Ky3 (intE .i64) false b13 fnone, mapO Ky3 (intE .i64) false b9 fnone, mapO Ky3 ReportE true b5 x32, rowR 92 b1 [Value.map none, Value.map none, Value.map none]] M) (mm [rowR 92 b17 [Value.map (some b5), Value.map (some b9), Value.map (some b13)], mapO Ky3 (intE .i64) false b13 fnone, mapO Ky3 (intE .i64) false b9 fnone, mapO Ky3 ReportE true b5 x42, rowR 92 b1 [Value.map none, Value.map none, Value.map none]] M) w33 w43 ∧ x42 = j40) ?_ ?_)
   ·refine cw_block (cw_seq (cw_regF ?_))
    obtain ⟨y46, hy46, h41⟩ := bnd h41
    refine p_ia rfl rfl (f_l_0.adv hI34.adv) hy46 Tryd.underlying22 Tryd.sizeOf61 rfl ?_
    intro b47 o48 cs49 hR50 hC51
    obtain ⟨rfl, r52, r53, r54, r55, r56, r57, r58, r59⟩ := ReportE_R.1 hR50
    refine s_lda rfl hC51.cells Tryd.isAgg61 rfl Tryd.sizeOf61 rfl (y_al hI34 Tryd.zeroValue61 rfl rfl ?_)
    intro b60 w61 hI62 x63
    refine y_st 0 hI62 rfl rfl rfl rfl Tryd.sizeOf61 rfl rfl (on8 rfl rfl rfl rfl rfl rfl rfl rfl) ?_
    intro w64 hI65 x66
    have hC68 := hI65.freezeRow 0 rfl
    have hI67 := hI65.erase 0
    refine Reg.nil (cw_seq (cw_regF (s_fa rfl Tryd.underlying61 rfl Tryd.sizeOf3 rfl (s_ld rfl (hC68.cells.at 3 rfl) Tryd.isAgg3 rfl (s_mv rfl rfl (s_leq rfl rfl rfl (Reg.nil ?_)))))))
    obtain ⟨j69, h70, h41⟩ := bnd h41
    refine cw_keep [7, 35, 1, 4, 5, 26, 27, 28] rfl (cw_unitD 2 (ι := (FMap Int Report)) (fun x71 => []) (fun x71 => fun w72 => Hp w [] M [rowR 92 b17 [Value.map (some b5), Value.map (some b9), Value.map (some b13)], mapO Ky3 (intE .i64) false b13 fnone, mapO Ky3 (intE .i64) false b9 fnone, mapO Ky3 ReportE true b5 x71, rowR 92 b1 [Value.map none, Value.map none, Value.map none]] w72 ∧ Adv (mm [rowR 92 b17 [Value.map (some b5), Value.map (some b9), Value.map (some b13)], mapO Ky3 (intE .i64) false b13 fnone, mapO Ky3 (intE .i64) false b9 fnone, mapO Ky3 ReportE true b5 x32, rowR 92 b1 [Value.map none, Value.map none, Value.map none]] M) (mm [rowR 92 b17 [Value.map (some b5), Value.map (some b9), Value.map (some b13)], mapO Ky3 (intE .i64) false b13 fnone, mapO Ky3 (intE .i64) false b9 fnone, mapO Ky3 ReportE true b5 x71, rowR 92 b1 [Value.map none, Value.map none, Value.map none]] M) w64 w72 ∧ x71 = j69) ?_ ?_)
    ·refine cw_cond rfl (fun hc75 => ?_) (fun hc75 => ?_)
     ·replace h70 := cdT hc75 h70
      refine cw_regF (s_fa rfl Tryd.underlying92 rfl Tryd.sizeOf90 rfl (s_fa rfl Tryd.underlying90 rfl Tryd.sizeOf88 rfl (s_ld rfl ((hI67.row 0 rfl).rd.cells.at 0 rfl) Tryd.isAgg88 rfl (s_fa rfl Tryd.underlying61 rfl Tryd.sizeOf3 rfl (s_ld rfl (hC68.cells.at 0 rfl) Tryd.isAgg3 rfl (s_lda rfl hC68.cells Tryd.isAgg61 rfl Tryd.sizeOf61 rfl (y_upF 3 (a := y46.id) (z := (Report.mk y46.id y46.source y46.account y46.made y46.about y46.kind y46.cents y46.of_)) hI67 rfl rfl rfl (show InK .i64 y46.id from r52) rfl ⟨_, ((ReportE_R (x := (Report.mk y46.id y46.source y46.account y46.made y46.about y46.kind y46.cents y46.of_))).2 ⟨rfl, r52, r53, r54, r55, r56, r57, r58, r59⟩), .inl ⟨rfl, rfl⟩⟩ Tryd.underlying88 ?_)))))))
      intro w76 hI77 x78
      refine Reg.nil ?_
      obtain rfl := Option.some.inj h70
      refine ⟨rfl, (fput x32 y46.id (Report.mk y46.id y46.source y46.account y46.made y46.about y46.kind y46.cents y46.of_)), ⟨hI77, x78, rfl⟩, sb6 rfl rfl rfl rfl rfl rfl⟩
     replace h70 := cdF hc75 h70
     refine cw_skip ?_
     obtain rfl := Option.some.inj h70
     refine ⟨rfl, x32, ⟨hI67, (Adv.refl _ _), rfl⟩, sb6 rfl rfl rfl rfl rfl rfl⟩
    rintro x71 w72 ⟨hI73, hA74, rfl⟩
    obtain rfl := Option.some.inj h41
    refine ⟨rfl, x71, ⟨hI73, (x63.trans (x66.trans ((hI65.eraseH 0).trans hA74))), rfl⟩, sb6 rfl rfl rfl rfl rfl rfl⟩
   rintro x42 w43 ⟨hI44, hA45, rfl⟩
   refine cw_regF ?_
   obtain ⟨n79, hn79, h37⟩ := bnd h37
   replace hn79 := chk_out hn79
   refine p_add rfl rfl rfl hn79 (s_mv rfl rfl (Reg.nil ?_))
   obtain rfl := Option.some.inj h37
   refine ⟨rfl, (n79, x42), ⟨⟨hI44, (hA35.trans hA45), hn79.2⟩, rfl⟩, sb6 rfl rfl rfl rfl rfl rfl⟩
  replace h37 := cdF hc39 h37
  refine cw_exit (exB_same ?_)
  obtain rfl := Option.some.inj h37
  obtain rfl := hR38 _ rfl
  refine ⟨rfl, x32, ⟨hI34, hA35, rfl⟩, sb2 rfl rfl⟩
 rintro x26 w27 ⟨hI28, hA29, rfl⟩
 refine cw_seq (cw_seq (cw_regF (s_fa rfl Tryd.underlying92 rfl Tryd.sizeOf90 rfl (s_fa rfl Tryd.underlying90 rfl Tryd.sizeOf88 rfl (s_ld rfl ((hI28.row 0 rfl).rd.cells.at 0 rfl) Tryd.isAgg88 rfl ?_)))))
 have hf80 := hI28.freezeM 3 rfl
 have hI81 := hI28.erase 3
 refine y_rg hI81 hf80 rfl Tryd.underlying88 rfl ?_
 intro r82 b83 c84 es85 xs86 w87 hX88 hL89 hI90 x91
 refine Reg.nil ?_
 obtain ⟨j92, h93, h⟩ := bnd h
 refine cw_keep [46, 4, 5] rfl (cw_unitD 1 (ι := (FMap Int Int)) (fun x94 => []) (fun x94 => fun w95 => Hp w [] M [rowR 92 b17 [(Value.map (some b5)), Value.map (some b9), Value.map (some b13)], mapO Ky3 (intE .i64) false b13 fnone, mapO Ky3 (intE .i64) false b9 x94, rowR 92 b1 [Value.map none, Value.map none, Value.map none]] w95 ∧ Adv (mm [itR r82 b83 c84 es85 xs86 none xs86, rowR 92 b17 [(Value.map (some b5)), Value.map (some b9), Value.map (some b13)], mapO Ky3 (intE .i64) false b13 fnone, mapO Ky3 (intE .i64) false b9 fnone, rowR 92 b1 [Value.map none, Value.map none, Value.map none]] M) (mm [rowR 92 b17 [(Value.map (some b5)), Value.map (some b9), Value.map (some b13)], mapO Ky3 (intE .i64) false b13 fnone, mapO Ky3 (intE .i64) false b9 x94, rowR 92 b1 [Value.map none, Value.map none, Value.map none]] M) w87 w95 ∧ x94 = j92) ?_ ?_)
 ·refine cw_block (cw_keep [4, 5, 46] rfl (cw_loopA 0 (ι := (FMap Int Int)) _ (fun x99 => []) (fun x99 => x99) (fun x99 => fun l98 w100 => Hp w [] M [itR r82 b83 c84 es85 xs86 none l98, rowR 92 b17 [(Value.map (some b5)), Value.map (some b9), Value.map (some b13)], mapO Ky3 (intE .i64) false b13 fnone, mapO Ky3 (intE .i64) false b9 x99, rowR 92 b1 [Value.map none, Value.map none, Value.map none]] w100 ∧ Adv (mm [itR r82 b83 c84 es85 xs86 none xs86, rowR 92 b17 [(Value.map (some b5)), Value.map (some b9), Value.map (some b13)], mapO Ky3 (intE .i64) false b13 fnone, mapO Ky3 (intE .i64) false b9 fnone, rowR 92 b1 [Value.map none, Value.map none, Value.map none]] M) (mm [itR r82 b83 c84 es85 xs86 none l98, rowR 92 b17 [(Value.map (some b5)), Value.map (some b9), Value.map (some b13)], mapO Ky3 (intE .i64) false b13 fnone, mapO Ky3 (intE .i64) false b9 x99, rowR 92 b1 [Value.map none, Value.map none, Value.map none]] M) w87 w100) fnone xs86 (anyM_out h93 hL89) ⟨hI90, (Adv.refl _ _)⟩ (sb3 rfl rfl rfl) ?_))
  rintro x99 l98 w100 ⟨hI101, hA102⟩ h104 hR105
  refine cw_seq (cw_regF (y_nx 0 hI101 (hX88.adv (x91.trans hA102)) rfl rfl rfl (fun hn106 => ?_) ?_))
  ·obtain rfl := h104 hn106
   have hI116 := hI101.erase 0
   refine s_xt rfl rfl rfl (Reg.nil (cw_seq (cw_condF rfl ?_)))
   refine cw_exit (exB_same ?_)
   refine ⟨rfl, x99, ⟨hI116, (hA102.trans (hI101.eraseH 0)), rfl⟩, sb2 rfl rfl⟩
  intro y107 l108 k109 v110 w111 hp112 hI113 x114
  obtain ⟨shB115, hB115⟩ := hR105 y107 l108 hp112
  have zhB115 := hB115
  refine s_xt rfl rfl rfl (Reg.nil (cw_seq (cw_condT rfl ?_)))
  refine cw_skip ?_
  obtain ⟨j117, h118, hB115⟩ := bnd hB115
  refine cw_keep [4, 5, 46] rfl (cw_unitD 0 (ι := (FMap Int Int)) (fun x119 => []) (fun x119 => fun w120 => Hp w [] M [itR r82 b83 c84 es85 xs86 none l108, rowR 92 b17 [(Value.map (some b5)), Value.map (some b9), Value.map (some b13)], mapO Ky3 (intE .i64) false b13 fnone, mapO Ky3 (intE .i64) false b9 x119, rowR 92 b1 [Value.map none, Value.map none, Value.map none]] w120 ∧ Adv (mm [itR r82 b83 c84 es85 xs86 (some y107) l108, rowR 92 b17 [(Value.map (some b5)), Value.map (some b9), Value.map (some b13)], mapO Ky3 (intE .i64) false b13 fnone, mapO Ky3 (intE .i64) false b9 x99, rowR 92 b1 [Value.map none, Value.map none, Value.map none]] M) (mm [itR r82 b83 c84 es85 xs86 none l108, rowR 92 b17 [(Value.map (some b5)), Value.map (some b9), Value.map (some b13)], mapO Ky3 (intE .i64) false b13 fnone, mapO Ky3 (intE .i64) false b9 x119, rowR 92 b1 [Value.map none, Value.map none, Value.map none]] M) w111 w120 ∧ x119 = j117) ?_ ?_)
  ·refine cw_block (cw_seq (cw_regF (y_en 0 hI113 (hX88.adv (x91.trans (hA102.trans x114))) rfl rfl rfl ?_)))
   intro v123 hk124 hv125
   obtain ⟨cs126, hR127, rfl⟩ := Vl.agg hv125
   obtain ⟨rfl, r128, r129, r130, r131, r132, r133, r134, r135⟩ := ReportE_R.1 hR127
   have hI136 := hI113.itOff 0 rfl
   refine s_xt rfl rfl rfl (y_al hI136 Tryd.zeroValue61 rfl rfl ?_)
   intro b137 w138 hI139 x140
   refine y_st 0 hI139 rfl rfl rfl rfl Tryd.sizeOf61 rfl rfl (on8 rfl rfl rfl rfl rfl rfl rfl rfl) ?_
   intro w141 hI142 x143
   have hC145 := hI142.freezeRow 0 rfl
   have hI144 := hI142.erase 0
   refine Reg.nil (cw_seq (cw_regF (s_fa rfl Tryd.underlying92 rfl Tryd.sizeOf90 rfl (s_lda rfl (Cells.sub (hI144.row 1 rfl).rd.cells 0 1) Tryd.isAgg90 rfl Tryd.sizeOf90 rfl (s_lda rfl hC145.cells Tryd.isAgg61 rfl Tryd.sizeOf61 rfl ?_)))))
   obtain ⟨⟨z146, z147⟩, hz148, h118⟩ := bnd h118
   refine s_call rfl Tryd.call42 rfl ((C_account_store_aim (s := (Store.mk x26)) (r := (Report.mk y107.2.id y107.2.source y107.2.account y107.2.made y107.2.about y107.2.kind y107.2.cents y107.2.of_)) hI144.mlt (hf80.adv (x91.trans (hA102.trans (x114.trans ((Hp.itOffA (σ := [itR r82 b83 c84 es85 xs86 (some y107) l108, rowR 92 b17 [(Value.map (some b5)), Value.map (some b9), Value.map (some b13)], mapO Ky3 (intE .i64) false b13 fnone, mapO Ky3 (intE .i64) false b9 x99, rowR 92 b1 [Value.map none, Value.map none, Value.map none]]) (M := M) 0 rfl).trans (x140.trans (x143.trans (hI142.eraseH 0)))))))) r128 r129 r130 r131 r132 r133 r134 r135 hz148).mono ?_)
   rintro _ w149 ⟨rfl, r151, r152, r153, r154, r155, r156, r157, r158, e150⟩
   refine ⟨_, rfl, ?_⟩
   have hI159 := hI144.ext e150
   refine s_mv rfl rfl (s_xt rfl rfl rfl (s_xt rfl rfl rfl (y_al hI159 Tryd.zeroValue61 rfl rfl ?_)))
   intro b160 w161 hI162 x163
   refine y_st 0 hI162 rfl rfl rfl rfl Tryd.sizeOf61 rfl rfl (on8 rfl rfl rfl rfl rfl rfl rfl rfl) ?_
   intro w164 hI165 x166
   have hC168 := hI165.freezeRow 0 rfl
   have hI167 := hI165.erase 0
   refine s_as rfl rfl (Reg.nil ?_)
   obtain ⟨j169, h170, h118⟩ := bnd h118
   refine cw_keep [11, 4, 5, 9, 10, 46] rfl (cw_seqD 1 (ι := Bool) (fun x171 => [(68, Value.bool x171)]) (fun x171 => fun w172 => w164 = w172 ∧ x171 = j169) ?_ ?_)
   ·refine cw_regF (s_fa rfl Tryd.underlying61 rfl Tryd.sizeOf5 rfl (s_ld rfl ((hC145.adv ((Adv.of_ext e150).trans (x163.trans (x166.trans (hI165.eraseH 0))))).cells.at 5 rfl) Tryd.isAgg5 rfl (s_eql rfl rfl rfl (s_mv rfl rfl (Reg.gsplit (t := 61) rfl (fun hg175 => ?_) (fun hg175 => ?_))))))
    ·replace h170 := cdT hg175 h170
     refine Reg.take rfl rfl (s_mv rfl rfl (s_pkT rfl rfl rfl (s_mv rfl rfl (Reg.gsplit (t := 64) rfl (fun hg176 => ?_) (fun hg176 => ?_)))))
     ·replace h170 := cdT hg176 h170
      refine Reg.take rfl rfl (s_fa rfl Tryd.underlying61 rfl Tryd.sizeOf5 rfl (Reg.take rfl rfl (s_ld rfl (hC168.cells.at 5 rfl) Tryd.isAgg5 rfl (Reg.take rfl rfl (s_neq rfl rfl rfl (s_pkT rfl rfl rfl (Reg.nil ?_)))))))
      obtain rfl := Option.some.inj h170
      refine ⟨rfl, !decide (z146.kind = 9), ⟨rfl, rfl⟩, sb6 rfl rfl rfl rfl rfl rfl⟩
     replace h170 := cdF hg176 h170
     iterate 3 refine Reg.pass rfl rfl rfl rfl ?_
     refine s_pkF rfl rfl rfl (Reg.nil ?_)
     obtain rfl := Option.some.inj h170
     refine ⟨rfl, false, ⟨rfl, rfl⟩, sb6 rfl rfl rfl rfl rfl rfl⟩
    replace h170 := cdF hg175 h170
    refine Reg.pass rfl rfl rfl rfl (s_pkF rfl rfl rfl (s_mv rfl rfl ?_))
    iterate 3 refine Reg.pass rfl rfl rfl rfl ?_
    refine s_pkF rfl rfl rfl (Reg.nil ?_)
    obtain rfl := Option.some.inj h170
    refine ⟨rfl, false, ⟨rfl, rfl⟩, sb6 rfl rfl rfl rfl rfl rfl⟩
   rintro x171 _ ⟨rfl, rfl⟩
   obtain ⟨j177, h178, h118⟩ := bnd h118
   refine cw_keep [9, 10, 68, 4, 5, 46] rfl (cw_unitD 3 (ι := (FMap Int Int)) (fun x179 => []) (fun x179 => fun w180 => Hp w [] M [itR r82 b83 c84 es85 xs86 none l108, rowR 92 b17 [(Value.map (some b5)), Value.map (some b9), Value.map (some b13)], mapO Ky3 (intE .i64) false b13 fnone, mapO Ky3 (intE .i64) false b9 x179, rowR 92 b1 [Value.map none, Value.map none, Value.map none]] w180 ∧ Adv (mm [itR r82 b83 c84 es85 xs86 none l108, rowR 92 b17 [(Value.map (some b5)), Value.map (some b9), Value.map (some b13)], mapO Ky3 (intE .i64) false b13 fnone, mapO Ky3 (intE .i64) false b9 x99, rowR 92 b1 [Value.map none, Value.map none, Value.map none]] M) (mm [itR r82 b83 c84 es85 xs86 none l108, rowR 92 b17 [(Value.map (some b5)), Value.map (some b9), Value.map (some b13)], mapO Ky3 (intE .i64) false b13 fnone, mapO Ky3 (intE .i64) false b9 x179, rowR 92 b1 [Value.map none, Value.map none, Value.map none]] M) w164 w180 ∧ x179 = j177) ?_ ?_)
   ·refine cw_cond rfl (fun hc183 => ?_) (fun hc183 => ?_)
    ·replace h178 := cdT hc183 h178
     refine cw_seq (cw_regF (s_fa rfl Tryd.underlying92 rfl Tryd.sizeOf79 rfl (s_ld rfl ((hI167.row 1 rfl).rd.cells.at 1 rfl) Tryd.isAgg79 rfl (s_fa rfl Tryd.underlying61 rfl Tryd.sizeOf3 rfl (s_ld rfl (hC168.cells.at 0 rfl) Tryd.isAgg3 rfl ?_)))))
     obtain ⟨y184, hy184, h178⟩ := bnd h178
     refine y_lkF 3 (a := z146.id) (z0 := 0) hI167 rfl rfl rfl (show InK .i64 z146.id from r151) Tryd.underlying79 Tryd.zeroValue3 ⟨_, ⟨rfl, (by decide)⟩, .inr ⟨rfl, rfl⟩⟩ rfl ?_
     intro v185 hv186
     rw [Option.some.inj hy184] at hv186
     have hR187 := Vl.one1 hv186
     obtain ⟨r188', r188⟩ := hR187
     obtain rfl := one_inj r188'
     refine s_mv rfl rfl (s_xt rfl rfl rfl (s_xt rfl rfl rfl (s_as rfl rfl (s_as rfl rfl (Reg.nil ?_)))))
     obtain ⟨j189, h190, h178⟩ := bnd h178
     refine cw_keep [12, 13, 4, 5, 9, 10, 46] rfl (cw_seqD 2 (ι := Bool) (fun x191 => [(84, Value.bool x191)]) (fun x191 => fun w192 => w164 = w192 ∧ x191 = j189) ?_ ?_)
     ·refine cw_regF (s_mv rfl rfl (s_not rfl rfl (s_mv rfl rfl (Reg.gsplit (t := 79) rfl (fun hg195 => ?_) (fun hg195 => ?_)))))
      ·replace h190 := cdT hg195 h190
       iterate 4 refine Reg.pass rfl rfl rfl rfl ?_
       refine s_pkT rfl rfl rfl (Reg.nil ?_)
       obtain rfl := Option.some.inj h190
       refine ⟨rfl, true, ⟨rfl, rfl⟩, sb6 rfl rfl rfl rfl rfl rfl⟩
      replace h190 := cdF hg195 h190
      refine Reg.take rfl rfl (s_fa rfl Tryd.underlying61 rfl Tryd.sizeOf3 rfl (Reg.take rfl rfl (s_ld rfl ((hC145.adv ((Adv.of_ext e150).trans (x163.trans (x166.trans (hI165.eraseH 0))))).cells.at 0 rfl) Tryd.isAgg3 rfl (Reg.take rfl rfl (s_mv rfl rfl (Reg.take rfl rfl (s_lss rfl rfl rfl (s_pkF rfl rfl rfl (Reg.nil ?_)))))))))
      obtain rfl := Option.some.inj h190
      refine ⟨rfl, decide (y107.2.id < y184), ⟨rfl, rfl⟩, sb6 rfl rfl rfl rfl rfl rfl⟩
     rintro x191 _ ⟨rfl, rfl⟩
     obtain ⟨j196, h197, h178⟩ := bnd h178
     refine cw_keep [9, 10, 84, 4, 5, 46] rfl (cw_unitD 3 (ι := (FMap Int Int)) (fun x198 => []) (fun x198 => fun w199 => Hp w [] M [itR r82 b83 c84 es85 xs86 none l108, rowR 92 b17 [(Value.map (some b5)), Value.map (some b9), Value.map (some b13)], mapO Ky3 (intE .i64) false b13 fnone, mapO Ky3 (intE .i64) false b9 x198, rowR 92 b1 [Value.map none, Value.map none, Value.map none]] w199 ∧ Adv (mm [itR r82 b83 c84 es85 xs86 none l108, rowR 92 b17 [(Value.map (some b5)), Value.map (some b9), Value.map (some b13)], mapO Ky3 (intE .i64) false b13 fnone, mapO Ky3 (intE .i64) false b9 x99, rowR 92 b1 [Value.map none, Value.map none, Value.map none]] M) (mm [itR r82 b83 c84 es85 xs86 none l108, rowR 92 b17 [(Value.map (some b5)), Value.map (some b9), Value.map (some b13)], mapO Ky3 (intE .i64) false b13 fnone, mapO Ky3 (intE .i64) false b9 x198, rowR 92 b1 [Value.map none, Value.map none, Value.map none]] M) w164 w199 ∧ x198 = j196) ?_ ?_)
     ·refine cw_cond rfl (fun hc202 => ?_) (fun hc202 => ?_)
      ·replace h197 := cdT hc202 h197
       refine cw_regF (s_fa rfl Tryd.underlying92 rfl Tryd.sizeOf79 rfl (s_ld rfl ((hI167.row 1 rfl).rd.cells.at 1 rfl) Tryd.isAgg79 rfl (s_fa rfl Tryd.underlying61 rfl Tryd.sizeOf3 rfl (s_ld rfl (hC168.cells.at 0 rfl) Tryd.isAgg3 rfl (s_fa rfl Tryd.underlying61 rfl Tryd.sizeOf3 rfl (s_ld rfl ((hC145.adv ((Adv.of_ext e150).trans (x163.trans (x166.trans (hI165.eraseH 0))))).cells.at 0 rfl) Tryd.isAgg3 rfl (y_upF 3 (a := z146.id) (z := y107.2.id) hI167 rfl rfl rfl (show InK .i64 z146.id from r151) rfl ⟨_, ⟨rfl, r128⟩, .inr ⟨rfl, rfl⟩⟩ Tryd.underlying79 ?_)))))))
       intro w203 hI204 x205
       refine Reg.nil ?_
       obtain rfl := Option.some.inj h197
       refine ⟨rfl, (fput x99 z146.id y107.2.id), ⟨hI204, x205, rfl⟩, sb3 rfl rfl rfl⟩
      replace h197 := cdF hc202 h197
      refine cw_skip ?_
      obtain rfl := Option.some.inj h197
      refine ⟨rfl, x99, ⟨hI167, (Adv.refl _ _), rfl⟩, sb3 rfl rfl rfl⟩
     rintro x198 w199 ⟨hI200, hA201, rfl⟩
     obtain rfl := Option.some.inj h178
     refine ⟨rfl, x198, ⟨hI200, hA201, rfl⟩, sb3 rfl rfl rfl⟩
    replace h178 := cdF hc183 h178
    refine cw_skip ?_
    obtain rfl := Option.some.inj h178
    refine ⟨rfl, x99, ⟨hI167, (Adv.refl _ _), rfl⟩, sb3 rfl rfl rfl⟩
   rintro x179 w180 ⟨hI181, hA182, rfl⟩
   obtain rfl := Option.some.inj h118
   refine ⟨rfl, x179, ⟨hI181, ((Hp.itOffA (σ := [itR r82 b83 c84 es85 xs86 (some y107) l108, rowR 92 b17 [(Value.map (some b5)), Value.map (some b9), Value.map (some b13)], mapO Ky3 (intE .i64) false b13 fnone, mapO Ky3 (intE .i64) false b9 x99, rowR 92 b1 [Value.map none, Value.map none, Value.map none]]) (M := M) 0 rfl).trans (x140.trans (x143.trans ((hI142.eraseH 0).trans ((Adv.of_ext e150).trans (x163.trans (x166.trans ((hI165.eraseH 0).trans hA182)))))))), rfl⟩, sb3 rfl rfl rfl⟩
  rintro x119 w120 ⟨hI121, hA122, rfl⟩
  obtain rfl := Option.some.inj hB115
  refine ⟨rfl, x119, y107, l108, ⟨hp112, zhB115, ⟨hI121, (hA102.trans (x114.trans hA122))⟩⟩, sb3 rfl rfl rfl⟩
 rintro x94 w95 ⟨hI96, hA97, rfl⟩
 refine cw_seq (cw_seq (cw_regF (s_fa rfl Tryd.underlying92 rfl Tryd.sizeOf90 rfl (s_fa rfl Tryd.underlying90 rfl Tryd.sizeOf88 rfl (s_ld rfl ((hI96.row 0 rfl).rd.cells.at 0 rfl) Tryd.isAgg88 rfl (y_rg hI96 (hf80.adv (x91.trans hA97)) rfl Tryd.underlying88 rfl ?_))))))
 intro r206 b207 c208 es209 xs210 w211 hX212 hL213 hI214 x215
 refine Reg.nil ?_
 obtain ⟨j216, h217, h⟩ := bnd h
 refine cw_keep [94, 4, 5] rfl (cw_unitD 1 (ι := (FMap Int Int)) (fun x218 => []) (fun x218 => fun w219 => Hp w [] M [rowR 92 b17 [(Value.map (some b5)), Value.map (some b9), Value.map (some b13)], mapO Ky3 (intE .i64) false b13 x218, mapO Ky3 (intE .i64) false b9 x94, rowR 92 b1 [Value.map none, Value.map none, Value.map none]] w219 ∧ Adv (mm [itR r206 b207 c208 es209 xs210 none xs210, rowR 92 b17 [(Value.map (some b5)), Value.map (some b9), Value.map (some b13)], mapO Ky3 (intE .i64) false b13 fnone, mapO Ky3 (intE .i64) false b9 x94, rowR 92 b1 [Value.map none, Value.map none, Value.map none]] M) (mm [rowR 92 b17 [(Value.map (some b5)), Value.map (some b9), Value.map (some b13)], mapO Ky3 (intE .i64) false b13 x218, mapO Ky3 (intE .i64) false b9 x94, rowR 92 b1 [Value.map none, Value.map none, Value.map none]] M) w211 w219 ∧ x218 = j216) ?_ ?_)
 ·refine cw_block (cw_keep [4, 5, 94] rfl (cw_loopA 0 (ι := (FMap Int Int)) _ (fun x223 => []) (fun x223 => x223) (fun x223 => fun l222 w224 => Hp w [] M [itR r206 b207 c208 es209 xs210 none l222, rowR 92 b17 [(Value.map (some b5)), Value.map (some b9), Value.map (some b13)], mapO Ky3 (intE .i64) false b13 x223, mapO Ky3 (intE .i64) false b9 x94, rowR 92 b1 [Value.map none, Value.map none, Value.map none]] w224 ∧ Adv (mm [itR r206 b207 c208 es209 xs210 none xs210, rowR 92 b17 [(Value.map (some b5)), Value.map (some b9), Value.map (some b13)], mapO Ky3 (intE .i64) false b13 fnone, mapO Ky3 (intE .i64) false b9 x94, rowR 92 b1 [Value.map none, Value.map none, Value.map none]] M) (mm [itR r206 b207 c208 es209 xs210 none l222, rowR 92 b17 [(Value.map (some b5)), Value.map (some b9), Value.map (some b13)], mapO Ky3 (intE .i64) false b13 x223, mapO Ky3 (intE .i64) false b9 x94, rowR 92 b1 [Value.map none, Value.map none, Value.map none]] M) w211 w224) fnone xs210 (anyM_out h217 hL213) ⟨hI214, (Adv.refl _ _)⟩ (sb3 rfl rfl rfl) ?_))
  rintro x223 l222 w224 ⟨hI225, hA226⟩ h228 hR229
  refine cw_seq (cw_regF (y_nx 0 hI225 (hX212.adv (x215.trans hA226)) rfl rfl rfl (fun hn230 => ?_) ?_))
  ·obtain rfl := h228 hn230
   have hI240 := hI225.erase 0
   refine s_xt rfl rfl rfl (Reg.nil (cw_seq (cw_condF rfl ?_)))
   refine cw_exit (exB_same ?_)
   refine ⟨rfl, x223, ⟨hI240, (hA226.trans (hI225.eraseH 0)), rfl⟩, sb2 rfl rfl⟩
  intro y231 l232 k233 v234 w235 hp236 hI237 x238
  obtain ⟨shB239, hB239⟩ := hR229 y231 l232 hp236
  have zhB239 := hB239
  refine s_xt rfl rfl rfl (Reg.nil (cw_seq (cw_condT rfl ?_)))
  refine cw_skip ?_
  obtain ⟨j241, h242, hB239⟩ := bnd hB239
  refine cw_keep [4, 5, 94] rfl (cw_unitD 0 (ι := (FMap Int Int)) (fun x243 => []) (fun x243 => fun w244 => Hp w [] M [itR r206 b207 c208 es209 xs210 none l232, rowR 92 b17 [(Value.map (some b5)), Value.map (some b9), Value.map (some b13)], mapO Ky3 (intE .i64) false b13 x243, mapO Ky3 (intE .i64) false b9 x94, rowR 92 b1 [Value.map none, Value.map none, Value.map none]] w244 ∧ Adv (mm [itR r206 b207 c208 es209 xs210 (some y231) l232, rowR 92 b17 [(Value.map (some b5)), Value.map (some b9), Value.map (some b13)], mapO Ky3 (intE .i64) false b13 x223, mapO Ky3 (intE .i64) false b9 x94, rowR 92 b1 [Value.map none, Value.map none, Value.map none]] M) (mm [itR r206 b207 c208 es209 xs210 none l232, rowR 92 b17 [(Value.map (some b5)), Value.map (some b9), Value.map (some b13)], mapO Ky3 (intE .i64) false b13 x243, mapO Ky3 (intE .i64) false b9 x94, rowR 92 b1 [Value.map none, Value.map none, Value.map none]] M) w235 w244 ∧ x243 = j241) ?_ ?_)
  ·refine cw_block (cw_seq (cw_regF (y_en 0 hI237 (hX212.adv (x215.trans (hA226.trans x238))) rfl rfl rfl ?_)))
   intro v247 hk248 hv249
   obtain ⟨cs250, hR251, rfl⟩ := Vl.agg hv249
   obtain ⟨rfl, r252, r253, r254, r255, r256, r257, r258, r259⟩ := ReportE_R.1 hR251
   have hI260 := hI237.itOff 0 rfl
   refine s_xt rfl rfl rfl (y_al hI260 Tryd.zeroValue61 rfl rfl ?_)
   intro b261 w262 hI263 x264
   refine y_st 0 hI263 rfl rfl rfl rfl Tryd.sizeOf61 rfl rfl (on8 rfl rfl rfl rfl rfl rfl rfl rfl) ?_
   intro w265 hI266 x267
   have hC269 := hI266.freezeRow 0 rfl
   have hI268 := hI266.erase 0
   refine Reg.nil (cw_seq (cw_regF (s_fa rfl Tryd.underlying92 rfl Tryd.sizeOf90 rfl (s_lda rfl (Cells.sub (hI268.row 1 rfl).rd.cells 0 1) Tryd.isAgg90 rfl Tryd.sizeOf90 rfl (s_lda rfl hC269.cells Tryd.isAgg61 rfl Tryd.sizeOf61 rfl ?_)))))
   obtain ⟨⟨z270, z271⟩, hz272, h242⟩ := bnd h242
   refine s_call rfl Tryd.call42 rfl ((C_account_store_aim (s := (Store.mk x26)) (r := (Report.mk y231.2.id y231.2.source y231.2.account y231.2.made y231.2.about y231.2.kind y231.2.cents y231.2.of_)) hI268.mlt (hf80.adv (x91.trans (hA97.trans (x215.trans (hA226.trans (x238.trans ((Hp.itOffA (σ := [itR r206 b207 c208 es209 xs210 (some y231) l232, rowR 92 b17 [(Value.map (some b5)), Value.map (some b9), Value.map (some b13)], mapO Ky3 (intE .i64) false b13 x223, mapO Ky3 (intE .i64) false b9 x94, rowR 92 b1 [Value.map none, Value.map none, Value.map none]]) (M := M) 0 rfl).trans (x264.trans (x267.trans (hI266.eraseH 0)))))))))) r252 r253 r254 r255 r256 r257 r258 r259 hz272).mono ?_)
   rintro _ w273 ⟨rfl, r275, r276, r277, r278, r279, r280, r281, r282, e274⟩
   refine ⟨_, rfl, ?_⟩
   have hI283 := hI268.ext e274
   refine s_mv rfl rfl (s_xt rfl rfl rfl (s_xt rfl rfl rfl (y_al hI283 Tryd.zeroValue61 rfl rfl ?_)))
   intro b284 w285 hI286 x287
   refine y_st 0 hI286 rfl rfl rfl rfl Tryd.sizeOf61 rfl rfl (on8 rfl rfl rfl rfl rfl rfl rfl rfl) ?_
   intro w288 hI289 x290
   have hC292 := hI289.freezeRow 0 rfl
   have hI291 := hI289.erase 0
   refine s_as rfl rfl (Reg.nil (cw_seq ?_))
   obtain ⟨j293, h294, h242⟩ := bnd h242
   refine cw_keep [17, 4, 5, 15, 16, 94] rfl (cw_seqD 1 (ι := Bool) (fun x295 => [(140, Value.bool x295)]) (fun x295 => fun w296 => Hp w [] M [itR r206 b207 c208 es209 xs210 none l232, rowR 92 b17 [(Value.map (some b5)), Value.map (some b9), Value.map (some b13)], mapO Ky3 (intE .i64) false b13 x223, mapO Ky3 (intE .i64) false b9 x94, rowR 92 b1 [Value.map none, Value.map none, Value.map none]] w296 ∧ Adv (mm [itR r206 b207 c208 es209 xs210 none l232, rowR 92 b17 [(Value.map (some b5)), Value.map (some b9), Value.map (some b13)], mapO Ky3 (intE .i64) false b13 x223, mapO Ky3 (intE .i64) false b9 x94, rowR 92 b1 [Value.map none, Value.map none, Value.map none]] M) (mm [itR r206 b207 c208 es209 xs210 none l232, rowR 92 b17 [(Value.map (some b5)), Value.map (some b9), Value.map (some b13)], mapO Ky3 (intE .i64) false b13 x223, mapO Ky3 (intE .i64) false b9 x94, rowR 92 b1 [Value.map none, Value.map none, Value.map none]] M) w288 w296 ∧ x295 = j293) ?_ ?_)
   ·refine cw_regD [0, 1, 2, 3, 4, 5, 6, 7, 8, 9, 10, 11, 12, 13, 14, 15, 16, 17, 18, 19, 20, 21, 22, 23, 24, 25, 26, 27, 28, 29, 30, 31, 32, 33, 34] [] fol (by kernel_rfl) rfl rfl ?_
    refine s_fa rfl Tryd.underlying61 rfl Tryd.sizeOf5 rfl (s_ld rfl ((hC269.adv ((Adv.of_ext e274).trans (x287.trans (x290.trans (hI289.eraseH 0))))).cells.at 5 rfl) Tryd.isAgg5 rfl (s_neq rfl rfl rfl (s_mv rfl rfl (Reg.gsplit (t := 109) rfl (fun hg299 => ?_) (fun hg299 => ?_)))))
    ·replace h294 := cdT hg299 h294
     refine Reg.pass rfl rfl rfl rfl (Reg.pass rfl rfl rfl rfl (s_pkT rfl rfl rfl (s_mv rfl rfl ?_)))
     iterate 3 refine Reg.pass rfl rfl rfl rfl ?_
     refine s_pkT rfl rfl rfl (s_mv rfl rfl ?_)
     iterate 9 refine Reg.pass rfl rfl rfl rfl ?_
     refine s_pkT rfl rfl rfl (s_mv rfl rfl ?_)
     iterate 4 refine Reg.pass rfl rfl rfl rfl ?_
     refine s_pkT rfl rfl rfl (s_mv rfl rfl ?_)
     iterate 4 refine Reg.pass rfl rfl rfl rfl ?_
     refine s_pkT rfl rfl rfl (Reg.nilF [] RSub.nil (nodupB_spec rfl) ?_)
     intro w300 e301
     refine Reg.nil ?_
     have hI302 := hI291.ext e301
     obtain rfl := Option.some.inj h294
     refine ⟨rfl, true, ⟨hI302, (Adv.of_ext e301), rfl⟩, sb6 rfl rfl rfl rfl rfl rfl⟩
    replace h294 := cdF hg299 h294
    refine Reg.take rfl rfl (s_mv rfl rfl (Reg.take rfl rfl (s_not rfl rfl (s_pkF rfl rfl rfl (s_mv rfl rfl (Reg.gsplit (t := 113) rfl (fun hg303 => ?_) (fun hg303 => ?_)))))))
    ·replace h294 := cdT hg303 h294
     iterate 3 refine Reg.pass rfl rfl rfl rfl ?_
     refine s_pkT rfl rfl rfl (s_mv rfl rfl ?_)
     iterate 9 refine Reg.pass rfl rfl rfl rfl ?_
     refine s_pkT rfl rfl rfl (s_mv rfl rfl ?_)
     iterate 4 refine Reg.pass rfl rfl rfl rfl ?_
     refine s_pkT rfl rfl rfl (s_mv rfl rfl ?_)
     iterate 4 refine Reg.pass rfl rfl rfl rfl ?_
     refine s_pkT rfl rfl rfl (Reg.nilF [] RSub.nil (nodupB_spec rfl) ?_)
     intro w304 e305
     refine Reg.nil ?_
     have hI306 := hI291.ext e305
     obtain rfl := Option.some.inj h294
     refine ⟨rfl, true, ⟨hI306, (Adv.of_ext e305), rfl⟩, sb6 rfl rfl rfl rfl rfl rfl⟩
    replace h294 := cdF hg303 h294
    refine Reg.take rfl rfl (s_lda rfl hC292.cells Tryd.isAgg61 rfl Tryd.sizeOf61 rfl (Reg.take rfl rfl ?_))
    obtain ⟨z307, hz308, h294⟩ := bnd h294
    refine s_callq rfl rfl Tryd.call43 rfl (fun w309 e310 => (C_account_fact (r := (Report.mk z270.id z270.source z270.account z270.made z270.about z270.kind z270.cents z270.of_)) (hI291.mlt.ext e310) r275 r276 r277 r278 r279 r280 r281 r282 hz308).mono (fun _ _ hq => ⟨hq.1, hq.2⟩)) ?_
    refine Reg.take rfl rfl (s_not rfl rfl (s_pkF rfl rfl rfl (s_mv rfl rfl (Reg.gsplit (t := 118) rfl (fun hg311 => ?_) (fun hg311 => ?_)))))
    ·replace h294 := cdT hg311 h294
     iterate 9 refine Reg.pass rfl rfl rfl rfl ?_
     refine s_pkT rfl rfl rfl (s_mv rfl rfl ?_)
     iterate 4 refine Reg.pass rfl rfl rfl rfl ?_
     refine s_pkT rfl rfl rfl (s_mv rfl rfl ?_)
     iterate 4 refine Reg.pass rfl rfl rfl rfl ?_
     refine s_pkT rfl rfl rfl (Reg.nilF [] RSub.nil (nodupB_spec rfl) ?_)
     intro w312 e313
     refine Reg.nil ?_
     have hI314 := hI291.ext e313
     obtain rfl := Option.some.inj h294
     refine ⟨rfl, true, ⟨hI314, (Adv.of_ext e313), rfl⟩, sb6 rfl rfl rfl rfl rfl rfl⟩
    replace h294 := cdF hg311 h294
    refine Reg.take rfl rfl (s_fa rfl Tryd.underlying61 rfl Tryd.sizeOf5 rfl (Reg.take rfl rfl (s_ld rfl (hC292.cells.at 5 rfl) Tryd.isAgg5 rfl (Reg.take rfl rfl ?_))))
    obtain ⟨y315, hy315, h294⟩ := bnd h294
    refine s_iaG (k2 := .i64) (hG.adv hI291.adv) rfl rfl hy315 Tryd.underlying131 rfl Tryd.sizeOf3 rfl ?_
    intro hC316
    refine Reg.take rfl rfl (s_ld rfl (hC316.cells.at 0 rfl) Tryd.isAgg3 rfl (Reg.take rfl rfl (s_fa rfl Tryd.underlying61 rfl Tryd.sizeOf3 rfl (Reg.take rfl rfl (s_ld rfl ((hC269.adv ((Adv.of_ext e274).trans (x287.trans (x290.trans (hI289.eraseH 0))))).cells.at 6 rfl) Tryd.isAgg3 rfl (Reg.take rfl rfl (Reg.rel (.p fun v w' => RdS (intE .i64) (mm [itR r206 b207 c208 es209 xs210 none l232, rowR 92 b17 [(Value.map (some b5)), Value.map (some b9), Value.map (some b13)], mapO Ky3 (intE .i64) false b13 x223, mapO Ky3 (intE .i64) false b9 x94, rowR 92 b1 [Value.map none, Value.map none, Value.map none]] M) w' v ([y231.2.cents] : List Int)) [] rfl rfl rfl RSub.nil rfl (nodupB_spec rfl) ?_ (fun v w1 w2 e h => h.adv (Adv.of_ext e)) ?_)))))))
    ·intro w317 e318; simp only [relOut]; refine s_bs (E := (intE .i64)) (M := mm [itR r206 b207 c208 es209 xs210 none l232, rowR 92 b17 [(Value.map (some b5)), Value.map (some b9), Value.map (some b13)], mapO Ky3 (intE .i64) false b13 x223, mapO Ky3 (intE .i64) false b9 x94, rowR 92 b1 [Value.map none, Value.map none, Value.map none]] M) (Bb := 0) (xs := ([y231.2.cents] : List Int)) sl36 rfl rfl (Cls.cons rfl Cls.nil) (Chs.cons ⟨rfl, r258⟩ Chs.nil) (hI291.mlt.ext e318) (Nat.zero_le _) rfl rfl ?_; intro a319 w320 x321 _ h322 _; exact Reg.nil ⟨rfl, x321, _, rfl, h322, trivial⟩
    refine Reg.take rfl rfl ?_
    obtain ⟨z326, hz326, h294⟩ := bnd h294
    refine Reg.relC (.bool z326) [(125, _)] rfl rfl (RSub.cons rfl rfl RSub.nil) rfl (nodupB_spec rfl) ?_ ?_
    ·intro w327 e328; simp only [relOut]; intro u323 k324 s325; refine s_call rfl Tryd.call35 rfl ?_; refine (C_account_in (hI291.mlt.ext e328) (by decide) (glob0_in hy315) k324 hz326).mono ?_; rintro _ w329 ⟨rfl, x330⟩; refine ⟨_, rfl, ?_⟩; exact Reg.nil ⟨rfl, x330, _, rfl, rfl, trivial⟩
    refine Reg.take rfl rfl (s_not rfl rfl (s_pkF rfl rfl rfl (s_mv rfl rfl (Reg.gsplit (t := 129) rfl (fun hg332 => ?_) (fun hg332 => ?_)))))
    ·replace h294 := cdT hg332 h294
     iterate 4 refine Reg.pass rfl rfl rfl rfl ?_
     refine s_pkT rfl rfl rfl (s_mv rfl rfl ?_)
     iterate 4 refine Reg.pass rfl rfl rfl rfl ?_
     refine s_pkT rfl rfl rfl (Reg.nilF [] RSub.nil (nodupB_spec rfl) ?_)
     intro w333 e334
     refine Reg.nil ?_
     have hI335 := hI291.ext e334
     obtain rfl := Option.some.inj h294
     refine ⟨rfl, true, ⟨hI335, (Adv.of_ext e334), rfl⟩, sb6 rfl rfl rfl rfl rfl rfl⟩
    replace h294 := cdF hg332 h294
    refine Reg.take rfl rfl (s_lda rfl (hI291.row 1 rfl).rd.cells Tryd.isAgg92 rfl Tryd.sizeOf92 rfl (Reg.take rfl rfl (s_fa rfl Tryd.underlying61 rfl Tryd.sizeOf3 rfl (Reg.take rfl rfl (s_ld rfl ((hC269.adv ((Adv.of_ext e274).trans (x287.trans (x290.trans (hI289.eraseH 0))))).cells.at 0 rfl) Tryd.isAgg3 rfl (Reg.take rfl rfl ?_))))))
    obtain ⟨z336, hz337, h294⟩ := bnd h294
    refine s_callq rfl rfl Tryd.call70 rfl (fun w338 e339 => (C_account_desk_away (d := (Desk.mk (Store.mk x26) x94 x223)) ((hI291.sel [0, 1, 4] rfl).mlt.ext e339) (((hf80.adv (x91.trans (hA97.trans (x215.trans (hA226.trans (x238.trans ((Hp.itOffA (σ := [itR r206 b207 c208 es209 xs210 (some y231) l232, rowR 92 b17 [(Value.map (some b5)), Value.map (some b9), Value.map (some b13)], mapO Ky3 (intE .i64) false b13 x223, mapO Ky3 (intE .i64) false b9 x94, rowR 92 b1 [Value.map none, Value.map none, Value.map none]]) (M := M) 0 rfl).trans (x264.trans (x267.trans ((hI266.eraseH 0).trans ((Adv.of_ext e274).trans (x287.trans (x290.trans (hI289.eraseH 0)))))))))))))).adv (Hp.selA (σ := [itR r206 b207 c208 es209 xs210 none l232, rowR 92 b17 [(Value.map (some b5)), Value.map (some b9), Value.map (some b13)], mapO Ky3 (intE .i64) false b13 x223, mapO Ky3 (intE .i64) false b9 x94, rowR 92 b1 [Value.map none, Value.map none, Value.map none]]) [0, 1, 4])).adv (Adv.of_ext e339)) ((hI291.lendF [0, 1, 4] 3 rfl rfl).adv (Adv.of_ext e339)) ((hI291.lendF [0, 1, 4] 2 rfl rfl).adv (Adv.of_ext e339)) r252 hz337).mono (fun _ _ hq => ⟨hq.1, hq.2⟩)) ?_
    refine s_pkF rfl rfl rfl (s_mv rfl rfl (Reg.gsplit (t := 135) rfl (fun hg340 => ?_) (fun hg340 => ?_)))
    ·replace h294 := cdT hg340 h294
     iterate 4 refine Reg.pass rfl rfl rfl rfl ?_
     refine s_pkT rfl rfl rfl (Reg.nilF [] RSub.nil (nodupB_spec rfl) ?_)
     intro w341 e342
     refine Reg.nil ?_
     have hI343 := hI291.ext e342
     obtain rfl := Option.some.inj h294
     refine ⟨rfl, true, ⟨hI343, (Adv.of_ext e342), rfl⟩, sb6 rfl rfl rfl rfl rfl rfl⟩
    replace h294 := cdF hg340 h294
    refine Reg.take rfl rfl (s_lda rfl (hI291.row 1 rfl).rd.cells Tryd.isAgg92 rfl Tryd.sizeOf92 rfl (Reg.take rfl rfl (s_fa rfl Tryd.underlying61 rfl Tryd.sizeOf3 rfl (Reg.take rfl rfl (s_ld rfl (hC292.cells.at 0 rfl) Tryd.isAgg3 rfl (Reg.take rfl rfl ?_))))))
    obtain ⟨z344, hz345, h294⟩ := bnd h294
    refine s_callq rfl rfl Tryd.call70 rfl (fun w346 e347 => (C_account_desk_away (d := (Desk.mk (Store.mk x26) x94 x223)) ((hI291.sel [0, 1, 4] rfl).mlt.ext e347) (((hf80.adv (x91.trans (hA97.trans (x215.trans (hA226.trans (x238.trans ((Hp.itOffA (σ := [itR r206 b207 c208 es209 xs210 (some y231) l232, rowR 92 b17 [(Value.map (some b5)), Value.map (some b9), Value.map (some b13)], mapO Ky3 (intE .i64) false b13 x223, mapO Ky3 (intE .i64) false b9 x94, rowR 92 b1 [Value.map none, Value.map none, Value.map none]]) (M := M) 0 rfl).trans (x264.trans (x267.trans ((hI266.eraseH 0).trans ((Adv.of_ext e274).trans (x287.trans (x290.trans (hI289.eraseH 0)))))))))))))).adv (Hp.selA (σ := [itR r206 b207 c208 es209 xs210 none l232, rowR 92 b17 [(Value.map (some b5)), Value.map (some b9), Value.map (some b13)], mapO Ky3 (intE .i64) false b13 x223, mapO Ky3 (intE .i64) false b9 x94, rowR 92 b1 [Value.map none, Value.map none, Value.map none]]) [0, 1, 4])).adv (Adv.of_ext e347)) ((hI291.lendF [0, 1, 4] 3 rfl rfl).adv (Adv.of_ext e347)) ((hI291.lendF [0, 1, 4] 2 rfl rfl).adv (Adv.of_ext e347)) r275 hz345).mono (fun _ _ hq => ⟨hq.1, hq.2⟩)) ?_
    refine s_pkF rfl rfl rfl (Reg.nilF [] RSub.nil (nodupB_spec rfl) ?_)
    intro w348 e349
    refine Reg.nil ?_
    have hI350 := hI291.ext e349
    obtain rfl := Option.some.inj h294
    refine ⟨rfl, z344, ⟨hI350, (Adv.of_ext e349), rfl⟩, sb6 rfl rfl rfl rfl rfl rfl⟩
   rintro x295 w296 ⟨hI297, hA298, rfl⟩
   refine cw_cond rfl (fun hc351 => ?_) (fun hc351 => ?_)
   ·replace h242 := cdT hc351 h242
    refine cw_exit (exB_same ?_)
    obtain rfl := Option.some.inj h242
    refine ⟨rfl, x223, ⟨hI297, ((Hp.itOffA (σ := [itR r206 b207 c208 es209 xs210 (some y231) l232, rowR 92 b17 [(Value.map (some b5)), Value.map (some b9), Value.map (some b13)], mapO Ky3 (intE .i64) false b13 x223, mapO Ky3 (intE .i64) false b9 x94, rowR 92 b1 [Value.map none, Value.map none, Value.map none]]) (M := M) 0 rfl).trans (x264.trans (x267.trans ((hI266.eraseH 0).trans ((Adv.of_ext e274).trans (x287.trans (x290.trans ((hI289.eraseH 0).trans hA298)))))))), rfl⟩, sb3 rfl rfl rfl⟩
   replace h242 := cdF hc351 h242
   refine cw_skip (cw_seq (cw_regF (s_fa rfl Tryd.underlying92 rfl Tryd.sizeOf79 rfl (s_ld rfl ((hI297.row 1 rfl).rd.cells.at 2 rfl) Tryd.isAgg79 rfl (s_fa rfl Tryd.underlying61 rfl Tryd.sizeOf3 rfl (s_ld rfl ((hC292.adv hA298).cells.at 0 rfl) Tryd.isAgg3 rfl ?_))))))
   obtain ⟨y352, hy352, h242⟩ := bnd h242
   refine y_lkF 2 (a := z270.id) (z0 := 0) hI297 rfl rfl rfl (show InK .i64 z270.id from r275) Tryd.underlying79 Tryd.zeroValue3 ⟨_, ⟨rfl, (by decide)⟩, .inr ⟨rfl, rfl⟩⟩ rfl ?_
   intro v353 hv354
   rw [Option.some.inj hy352] at hv354
   have hR355 := Vl.one1 hv354
   obtain ⟨r356', r356⟩ := hR355
   obtain rfl := one_inj r356'
   refine s_mv rfl rfl (s_xt rfl rfl rfl (s_xt rfl rfl rfl (s_as rfl rfl (s_as rfl rfl (Reg.nil (cw_seq (cw_regF (s_fa rfl Tryd.underlying92 rfl Tryd.sizeOf90 rfl (s_fa rfl Tryd.underlying90 rfl Tryd.sizeOf88 rfl (s_ld rfl ((hI297.row 1 rfl).rd.cells.at 0 rfl) Tryd.isAgg88 rfl (s_mv rfl rfl ?_)))))))))))
   obtain ⟨y357, hy357, h242⟩ := bnd h242
   refine s_lkF1 (a := y352) (z0 := (Report.mk 0 0 0 0 0 0 0 0)) (hf80.adv (x91.trans (hA97.trans (x215.trans (hA226.trans (x238.trans ((Hp.itOffA (σ := [itR r206 b207 c208 es209 xs210 (some y231) l232, rowR 92 b17 [(Value.map (some b5)), Value.map (some b9), Value.map (some b13)], mapO Ky3 (intE .i64) false b13 x223, mapO Ky3 (intE .i64) false b9 x94, rowR 92 b1 [Value.map none, Value.map none, Value.map none]]) (M := M) 0 rfl).trans (x264.trans (x267.trans ((hI266.eraseH 0).trans ((Adv.of_ext e274).trans (x287.trans (x290.trans ((hI289.eraseH 0).trans hA298)))))))))))))) rfl rfl (show InK .i64 y352 from r356) Tryd.underlying88 Tryd.zeroValue61 ⟨_, ((ReportE_R (x := (Report.mk 0 0 0 0 0 0 0 0))).2 ⟨rfl, (show InK .i64 0 by decide), (show InK .i64 0 by decide), (show InK .i64 0 by decide), (show InK .i64 0 by decide), (show InK .i64 0 by decide), (show InK .u8 0 by decide), (show InK .i64 0 by decide), (show InK .i64 0 by decide)⟩), .inl ⟨rfl, rfl⟩⟩ rfl ?_
   intro v358 hv359
   rw [Option.some.inj hy357] at hv359
   obtain ⟨cs360, hR361, rfl⟩ := Vl.agg hv359
   obtain ⟨rfl, r362, r363, r364, r365, r366, r367, r368, r369⟩ := ReportE_R.1 hR361
   refine y_al hI297 Tryd.zeroValue61 rfl rfl ?_
   intro b370 w371 hI372 x373
   refine y_st 0 hI372 rfl rfl rfl rfl Tryd.sizeOf61 rfl rfl (on8 rfl rfl rfl rfl rfl rfl rfl rfl) ?_
   intro w374 hI375 x376
   have hC378 := hI375.freezeRow 0 rfl
   have hI377 := hI375.erase 0
   refine Reg.nil ?_
   obtain ⟨j379, h380, h242⟩ := bnd h242
   refine cw_keep [18, 19, 20, 4, 5, 15, 16, 94] rfl (cw_seqD 3 (ι := Bool) (fun x381 => [(169, Value.bool x381)]) (fun x381 => fun w382 => Hp w [] M [itR r206 b207 c208 es209 xs210 none l232, rowR 92 b17 [(Value.map (some b5)), Value.map (some b9), Value.map (some b13)], mapO Ky3 (intE .i64) false b13 x223, mapO Ky3 (intE .i64) false b9 x94, rowR 92 b1 [Value.map none, Value.map none, Value.map none]] w382 ∧ Adv (mm [itR r206 b207 c208 es209 xs210 none l232, rowR 92 b17 [(Value.map (some b5)), Value.map (some b9), Value.map (some b13)], mapO Ky3 (intE .i64) false b13 x223, mapO Ky3 (intE .i64) false b9 x94, rowR 92 b1 [Value.map none, Value.map none, Value.map none]] M) (mm [itR r206 b207 c208 es209 xs210 none l232, rowR 92 b17 [(Value.map (some b5)), Value.map (some b9), Value.map (some b13)], mapO Ky3 (intE .i64) false b13 x223, mapO Ky3 (intE .i64) false b9 x94, rowR 92 b1 [Value.map none, Value.map none, Value.map none]] M) w374 w382 ∧ x381 = j379) ?_ ?_)
   ·refine cw_regD [0, 1, 2, 3, 4, 5, 6, 7, 8, 9, 10, 11, 12, 13, 14, 15] [] fol (by kernel_rfl) rfl rfl ?_
    refine s_mv rfl rfl (s_not rfl rfl (s_mv rfl rfl (Reg.gsplit (t := 156) rfl (fun hg385 => ?_) (fun hg385 => ?_))))
    ·replace h380 := cdT hg385 h380
     iterate 12 refine Reg.pass rfl rfl rfl rfl ?_
     refine s_pkT rfl rfl rfl (Reg.nilF [] RSub.nil (nodupB_spec rfl) ?_)
     intro w386 e387
     refine Reg.nil ?_
     have hI388 := hI377.ext e387
     obtain rfl := Option.some.inj h380
     refine ⟨rfl, true, ⟨hI388, (Adv.of_ext e387), rfl⟩, sb6 rfl rfl rfl rfl rfl rfl⟩
    replace h380 := cdF hg385 h380
    refine Reg.take rfl rfl (s_fa rfl Tryd.underlying61 rfl Tryd.sizeOf3 rfl (Reg.take rfl rfl (s_ld rfl (hC378.cells.at 3 rfl) Tryd.isAgg3 rfl (Reg.take rfl rfl (s_fa rfl Tryd.underlying61 rfl Tryd.sizeOf3 rfl (Reg.take rfl rfl (s_ld rfl ((hC269.adv ((Adv.of_ext e274).trans (x287.trans (x290.trans ((hI289.eraseH 0).trans (hA298.trans (x373.trans (x376.trans (hI375.eraseH 0))))))))).cells.at 3 rfl) Tryd.isAgg3 rfl (Reg.take rfl rfl ?_))))))))
    obtain ⟨z389, hz390, h380⟩ := bnd h380
    refine s_callq rfl rfl Tryd.call72 rfl (fun w391 e392 => (C_cmp_Compare_72 (hI377.mlt.ext e392) r365 r255 hz390).mono (fun _ _ hq => ⟨hq.1, hq.2.2⟩)) ?_
    have r393 := Calls.fact (C_cmp_Compare_72 hI377.mlt r365 r255 hz390) (fun _ _ hq => hq.2.1)
    refine Reg.take rfl rfl (s_mv rfl rfl (Reg.take rfl rfl (s_fa rfl Tryd.underlying61 rfl Tryd.sizeOf3 rfl (Reg.take rfl rfl (s_ld rfl ((hC269.adv ((Adv.of_ext e274).trans (x287.trans (x290.trans ((hI289.eraseH 0).trans (hA298.trans (x373.trans (x376.trans (hI375.eraseH 0))))))))).cells.at 0 rfl) Tryd.isAgg3 rfl (Reg.take rfl rfl ?_))))))
    obtain ⟨z394, hz395, h380⟩ := bnd h380
    refine s_callq rfl rfl Tryd.call72 rfl (fun w396 e397 => (C_cmp_Compare_72 (hI377.mlt.ext e397) r356 r252 hz395).mono (fun _ _ hq => ⟨hq.1, hq.2.2⟩)) ?_
    have r398 := Calls.fact (C_cmp_Compare_72 hI377.mlt r356 r252 hz395) (fun _ _ hq => hq.2.1)
    refine Reg.take rfl rfl (Reg.rel (.p fun v w' => RdS (intE .i64) (mm [itR r206 b207 c208 es209 xs210 none l232, rowR 92 b17 [(Value.map (some b5)), Value.map (some b9), Value.map (some b13)], mapO Ky3 (intE .i64) false b13 x223, mapO Ky3 (intE .i64) false b9 x94, rowR 92 b1 [Value.map none, Value.map none, Value.map none]] M) w' v ([z389, z394] : List Int)) [] rfl rfl rfl RSub.nil rfl (nodupB_spec rfl) ?_ (fun v w1 w2 e h => h.adv (Adv.of_ext e)) ?_)
    ·intro w399 e400; simp only [relOut]; refine s_bs (E := (intE .i64)) (M := mm [itR r206 b207 c208 es209 xs210 none l232, rowR 92 b17 [(Value.map (some b5)), Value.map (some b9), Value.map (some b13)], mapO Ky3 (intE .i64) false b13 x223, mapO Ky3 (intE .i64) false b9 x94, rowR 92 b1 [Value.map none, Value.map none, Value.map none]] M) (Bb := 0) (xs := ([z389, z394] : List Int)) sl36 rfl rfl (Cls.cons rfl (Cls.cons rfl Cls.nil)) (Chs.cons ⟨rfl, r393⟩ (Chs.cons ⟨rfl, r398⟩ Chs.nil)) (hI377.mlt.ext e400) (Nat.zero_le _) rfl rfl ?_; intro a401 w402 x403 _ h404 _; exact Reg.nil ⟨rfl, x403, _, rfl, h404, trivial⟩
    refine Reg.take rfl rfl ?_
    obtain ⟨z408, hz408, h380⟩ := bnd h380
    obtain ⟨n414, hn414, h380⟩ := bnd h380
    have kz408 : InK .i64 z408 := (chk_out hn414).1 ▸ (chk_out hn414).2
    refine Reg.relC (.int .i64 z408) [(166, _)] rfl rfl (RSub.cons rfl rfl RSub.nil) rfl (nodupB_spec rfl) ?_ ?_
    ·intro w409 e410; simp only [relOut]; intro u405 k406 s407; refine s_call rfl Tryd.call71 rfl ?_; refine (C_cmp_Or_71 (hI377.mlt.ext e410) k406 hz408).mono ?_; rintro _ w411 ⟨rfl, _, x412⟩; refine ⟨_, rfl, ?_⟩; exact Reg.nil ⟨rfl, x412, _, rfl, rfl, trivial⟩
    refine Reg.take rfl rfl (s_lss rfl rfl rfl (s_pkF rfl rfl rfl (Reg.nilF [] RSub.nil (nodupB_spec rfl) ?_)))
    intro w415 e416
    refine Reg.nil ?_
    have hI417 := hI377.ext e416
    obtain rfl := Option.some.inj h380
    refine ⟨rfl, decide (z408 < 0), ⟨hI417, (Adv.of_ext e416), rfl⟩, sb6 rfl rfl rfl rfl rfl rfl⟩
   rintro x381 w382 ⟨hI383, hA384, rfl⟩
   obtain ⟨j418, h419, h242⟩ := bnd h242
   refine cw_keep [15, 16, 169, 4, 5, 94] rfl (cw_unitD 3 (ι := (FMap Int Int)) (fun x420 => []) (fun x420 => fun w421 => Hp w [] M [itR r206 b207 c208 es209 xs210 none l232, rowR 92 b17 [(Value.map (some b5)), Value.map (some b9), Value.map (some b13)], mapO Ky3 (intE .i64) false b13 x420, mapO Ky3 (intE .i64) false b9 x94, rowR 92 b1 [Value.map none, Value.map none, Value.map none]] w421 ∧ Adv (mm [itR r206 b207 c208 es209 xs210 none l232, rowR 92 b17 [(Value.map (some b5)), Value.map (some b9), Value.map (some b13)], mapO Ky3 (intE .i64) false b13 x223, mapO Ky3 (intE .i64) false b9 x94, rowR 92 b1 [Value.map none, Value.map none, Value.map none]] M) (mm [itR r206 b207 c208 es209 xs210 none l232, rowR 92 b17 [(Value.map (some b5)), Value.map (some b9), Value.map (some b13)], mapO Ky3 (intE .i64) false b13 x420, mapO Ky3 (intE .i64) false b9 x94, rowR 92 b1 [Value.map none, Value.map none, Value.map none]] M) w382 w421 ∧ x420 = j418) ?_ ?_)
   ·refine cw_cond rfl (fun hc424 => ?_) (fun hc424 => ?_)
    ·replace h419 := cdT hc424 h419
     refine cw_regF (s_fa rfl Tryd.underlying92 rfl Tryd.sizeOf79 rfl (s_ld rfl ((hI383.row 1 rfl).rd.cells.at 2 rfl) Tryd.isAgg79 rfl (s_fa rfl Tryd.underlying61 rfl Tryd.sizeOf3 rfl (s_ld rfl ((hC292.adv (hA298.trans (x373.trans (x376.trans ((hI375.eraseH 0).trans hA384))))).cells.at 0 rfl) Tryd.isAgg3 rfl (s_fa rfl Tryd.underlying61 rfl Tryd.sizeOf3 rfl (s_ld rfl ((hC269.adv ((Adv.of_ext e274).trans (x287.trans (x290.trans ((hI289.eraseH 0).trans (hA298.trans (x373.trans (x376.trans ((hI375.eraseH 0).trans hA384))))))))).cells.at 0 rfl) Tryd.isAgg3 rfl (y_upF 2 (a := z270.id) (z := y231.2.id) hI383 rfl rfl rfl (show InK .i64 z270.id from r275) rfl ⟨_, ⟨rfl, r252⟩, .inr ⟨rfl, rfl⟩⟩ Tryd.underlying79 ?_)))))))
     intro w425 hI426 x427
     refine Reg.nil ?_
     obtain rfl := Option.some.inj h419
     refine ⟨rfl, (fput x223 z270.id y231.2.id), ⟨hI426, x427, rfl⟩, sb3 rfl rfl rfl⟩
    replace h419 := cdF hc424 h419
    refine cw_skip ?_
    obtain rfl := Option.some.inj h419
    refine ⟨rfl, x223, ⟨hI383, (Adv.refl _ _), rfl⟩, sb3 rfl rfl rfl⟩
   rintro x420 w421 ⟨hI422, hA423, rfl⟩
   obtain rfl := Option.some.inj h242
   refine ⟨rfl, x420, ⟨hI422, ((Hp.itOffA (σ := [itR r206 b207 c208 es209 xs210 (some y231) l232, rowR 92 b17 [(Value.map (some b5)), Value.map (some b9), Value.map (some b13)], mapO Ky3 (intE .i64) false b13 x223, mapO Ky3 (intE .i64) false b9 x94, rowR 92 b1 [Value.map none, Value.map none, Value.map none]]) (M := M) 0 rfl).trans (x264.trans (x267.trans ((hI266.eraseH 0).trans ((Adv.of_ext e274).trans (x287.trans (x290.trans ((hI289.eraseH 0).trans (hA298.trans (x373.trans (x376.trans ((hI375.eraseH 0).trans (hA384.trans hA423))))))))))))), rfl⟩, sb3 rfl rfl rfl⟩
  rintro x243 w244 ⟨hI245, hA246, rfl⟩
  obtain rfl := Option.some.inj hB239
  refine ⟨rfl, x243, y231, l232, ⟨hp236, zhB239, ⟨hI245, (hA226.trans (x238.trans hA246))⟩⟩, sb3 rfl rfl rfl⟩
 rintro x218 w219 ⟨hI220, hA221, rfl⟩
 refine cw_seq (cw_regF (s_lda rfl (hI220.row 0 rfl).rd.cells Tryd.isAgg92 rfl Tryd.sizeOf92 rfl (y_st 3 hI220 rfl rfl rfl rfl Tryd.sizeOf92 rfl rfl (one1 (RdF.oneC hf80) (on2 rfl rfl)) ?_)))
 intro w428 hI429 x430
 refine Reg.nil (cw_ret ?_)
 obtain rfl := Option.some.inj h
 have hf431 := hI429.freezeM 2 rfl
 have hI432 := hI429.erase 2
 have hf433 := hI432.freezeM 1 rfl
 have hI434 := hI432.erase 1
 refine fin_any Tryd.results37 (AllRs.cons (RsOk.agg rfl (hI434.row 1 rfl).rd.cells Tryd.isAgg92 rfl Tryd.sizeOf92) (AllRs.nil)) rfl ?_
 exact ⟨_, _, _, rfl, ((hf80.adv (x91.trans (hA97.trans (x215.trans (hA221.trans (x430.trans ((hI429.eraseH 2).trans (hI432.eraseH 1)))))))).adv hI434.baseH), ((hf431.adv (hI432.eraseH 1)).adv hI434.baseH), (hf433.adv hI434.baseH), hI434.kp⟩
end Go.Proofs.YtepjkmoipjeghaaDoor
set_option maxRecDepth 20000
set_option maxHeartbeats 4000000
namespace Go.Proofs.YtepjkmoipjeghaaDoor
open Go Go.Sx Go.RowKit
variable [Trk]
noncomputable def P.account_Fate (l : (List Report)) (n : Int) (known : Int) : Option (Int × Int × Int) :=
  Option.bind (P.account_Check l) fun z1 => cond (!decide (z1 = 0)) (some (0, 0, z1)) (Option.bind (P.account_in 0 100000 ([known] : List Int)) fun z12 => cond (!z12) (some (0, 0, 2)) (Option.bind (P.account_open l known) fun z18 => Option.bind (some ((z18.store.reports n).getD (Report.mk 0 0 0 0 0 0 0 0))) fun y38 => cond (!((z18.store.reports n).isSome)) (some (0, 0, 6)) (Option.bind (some ((z18.gone n).getD 0)) fun y61 => Option.bind (some ((z18.fixed n).getD 0)) fun y66 => Option.bind (P.account_store_aim (Store.mk z18.store.reports) (Report.mk y38.id y38.source y38.account y38.made y38.about y38.kind y38.cents y38.of_)) fun (z71, z72) => Option.bind (cond (decide (y38.kind = 9)) (cond z72 (some (!decide (z71.kind = 9))) (some false)) (some false)) fun x96 => Option.bind (Option.bind (cond (decide (y38.kind = 8)) (Option.bind (some ((z18.fixed y38.of_).getD 0)) fun y98 => Option.bind (cond ((z18.fixed y38.of_).isSome) (some (decide (y98 = n))) (some false)) fun x104 => some x104) (some x96)) fun x105 => some x105) fun x106 => cond ((z18.gone n).isSome) (some (2, y61, 0)) (cond x106 (some (4, (-1), 0)) (Option.bind (P.account_fact (Report.mk y38.id y38.source y38.account y38.made y38.about y38.kind y38.cents y38.of_)) fun z109 => cond (!z109) (some (3, (-1), 0)) (cond ((z18.fixed n).isSome) (some (1, y66, 0)) (some (0, (-1), 0))))))))
theorem C_account_Fate {M : List Nat} {w : World} (hM : MLt M w) (hG : RdC M w 0 0 (glob0.map (Value.int .i64))) {l : (List Report)} {v_l_0 : Value} (f_l_0 : RdS ReportE M w v_l_0 l) {n : Int} (f_n_0 : InK .i64 n) {known : Int} (f_known_0 : InK .i64 known) {r0 : Int} {r1 : Int} {r2 : Int} (h : P.account_Fate l n known = some (r0, r1, r2)) :
  Calls Tryd.prog 15 (List.toArray [v_l_0, vi n, vi known]) w fun e w' => e = .returned (Value.tuple (List.toArray [vu r0, vi r1, vi r2])) ∧ InK .u8 r0 ∧ InK .i64 r1 ∧ InK .i64 r2 ∧ Ext w w' := by
 have hI := Hp.start (Mu := []) hM
 refine calls_cw Tryd.func15 rfl Tryd.ntmps15 rfl ?_
 refine cw_seq (cw_regF ?_)
 iterate 3 refine s_as rfl rfl ?_
 refine Reg.nil (cw_seq (cw_seq (cw_regF (s_mv rfl rfl ?_))))
 obtain ⟨z1, hz2, h⟩ := bnd h
 refine s_call rfl Tryd.call17 rfl ((C_account_Check hI.mlt hG f_l_0 hz2).mono ?_)
 rintro _ w3 ⟨rfl, r5, e4⟩
 refine ⟨_, rfl, ?_⟩
 have hI6 := hI.ext e4
 refine s_as rfl rfl (Reg.nil (cw_seq (cw_regF (s_mv rfl rfl (s_neq rfl rfl rfl (Reg.nil (cw_cond rfl (fun hc7 => ?_) (fun hc7 => ?_))))))))
 ·replace h := cdT hc7 h
  refine cw_seq (cw_regF (s_mv rfl rfl ?_))
  iterate 3 refine s_as rfl rfl ?_
  refine Reg.nil (cw_ret ?_)
  obtain ⟨rfl, rfl, rfl⟩ := inj3 h
  refine fin3 Tryd.results15 rfl rfl rfl ?_
  exact ⟨rfl, (by decide), (by decide), r5, hI6.kp⟩
 replace h := cdF hc7 h
 refine cw_skip (cw_seq (cw_seq (cw_regF (s_mv rfl rfl (y_bs (E := (intE .i64)) (xs := [known]) sl36 hI6 rfl rfl (Cls.cons rfl Cls.nil) (Chs.cons ⟨rfl, f_known_0⟩ Chs.nil) rfl rfl ?_)))))
 intro v8 w9 hI10 x11
 obtain ⟨z12, hz13, h⟩ := bnd h
 refine s_call rfl Tryd.call35 rfl ?_
 refine (C_account_in (hI10.sel [] rfl).mlt (by decide) (by decide) (hI10.lendRd [] 0 rfl rfl) hz13).mono ?_
 rintro _ w14 ⟨rfl, e15⟩
 refine ⟨_, rfl, ?_⟩
 have hI16 := hI10.ext e15
 refine s_not rfl rfl (Reg.nil (cw_cond rfl (fun hc17 => ?_) (fun hc17 => ?_)))
 ·replace h := cdT hc17 h
  refine cw_seq (cw_regF ?_)
  iterate 3 refine s_as rfl rfl ?_
  refine Reg.nil (cw_ret ?_)
  obtain ⟨rfl, rfl, rfl⟩ := inj3 h
  refine fin3 Tryd.results15 rfl rfl rfl ?_
  exact ⟨rfl, (by decide), (by decide), (by decide), hI16.kp⟩
 replace h := cdF hc17 h
 refine cw_skip (cw_seq (cw_regF (s_mv rfl rfl (s_mv rfl rfl ?_))))
 obtain ⟨z18, hz19, h⟩ := bnd h
 refine s_call rfl Tryd.call37 rfl ((C_account_open hI16.mlt (hG.adv hI16.adv) (f_l_0.adv hI16.adv) f_known_0 hz19).mono ?_)
 rintro _ w20 ⟨v22, v24, v26, rfl, hf23, hf25, hf27, e21⟩
 refine ⟨_, rfl, ?_⟩
 have hI28 := hI16.ext e21
 refine y_al hI28 Tryd.zeroValue92 rfl rfl ?_
 intro b29 w30 hI31 x32
 refine y_st 0 hI31 rfl rfl rfl rfl Tryd.sizeOf92 rfl rfl (one1 (RdF.oneC hf23) (one1 (RdF.oneC hf25) (one1 (RdF.oneC hf27) one0))) ?_
 intro w33 hI34 x35
 have hC37 := hI34.freezeRow 0 rfl
 have hI36 := hI34.erase 0
 refine Reg.nil (cw_seq (cw_regF (s_fa rfl Tryd.underlying92 rfl Tryd.sizeOf90 rfl (s_fa rfl Tryd.underlying90 rfl Tryd.sizeOf88 rfl (s_ld rfl (hC37.cells.at 0 rfl) Tryd.isAgg88 rfl (s_mv rfl rfl ?_))))))
 obtain ⟨y38, hy38, h⟩ := bnd h
 refine s_lkF (a := n) (z0 := (Report.mk 0 0 0 0 0 0 0 0)) (hf23.adv (x32.trans (x35.trans (hI34.eraseH 0)))) rfl rfl (show InK .i64 n from f_n_0) Tryd.underlying88 Tryd.zeroValue61 ⟨_, ((ReportE_R (x := (Report.mk 0 0 0 0 0 0 0 0))).2 ⟨rfl, (show InK .i64 0 by decide), (show InK .i64 0 by decide), (show InK .i64 0 by decide), (show InK .i64 0 by decide), (show InK .i64 0 by decide), (show InK .u8 0 by decide), (show InK .i64 0 by decide), (show InK .i64 0 by decide)⟩), .inl ⟨rfl, rfl⟩⟩ rfl ?_
 intro v39 hv40
 rw [Option.some.inj hy38] at hv40
 obtain ⟨cs41, hR42, rfl⟩ := Vl.agg hv40
 obtain ⟨rfl, r43, r44, r45, r46, r47, r48, r49, r50⟩ := ReportE_R.1 hR42
 refine s_mv rfl rfl (s_xt rfl rfl rfl (s_xt rfl rfl rfl (y_al hI36 Tryd.zeroValue61 rfl rfl ?_)))
 intro b51 w52 hI53 x54
 refine y_st 0 hI53 rfl rfl rfl rfl Tryd.sizeOf61 rfl rfl (on8 rfl rfl rfl rfl rfl rfl rfl rfl) ?_
 intro w55 hI56 x57
 have hC59 := hI56.freezeRow 0 rfl
 have hI58 := hI56.erase 0
 refine s_as rfl rfl (Reg.nil (cw_seq (cw_seq (cw_regF (s_mv rfl rfl (s_not rfl rfl (Reg.nil (cw_cond rfl (fun hc60 => ?_) (fun hc60 => ?_)))))))))
 ·replace h := cdT hc60 h
  refine cw_seq (cw_regF ?_)
  iterate 3 refine s_as rfl rfl ?_
  refine Reg.nil (cw_ret ?_)
  obtain ⟨rfl, rfl, rfl⟩ := inj3 h
  refine fin3 Tryd.results15 rfl rfl rfl ?_
  exact ⟨rfl, (by decide), (by decide), (by decide), hI58.kp⟩
 replace h := cdF hc60 h
 refine cw_skip (cw_seq (cw_regF (s_fa rfl Tryd.underlying92 rfl Tryd.sizeOf79 rfl (s_ld rfl ((hC37.adv (x54.trans (x57.trans (hI56.eraseH 0)))).cells.at 1 rfl) Tryd.isAgg79 rfl (s_mv rfl rfl ?_)))))
 obtain ⟨y61, hy61, h⟩ := bnd h
 refine s_lkF (a := n) (z0 := 0) (hf25.adv (x32.trans (x35.trans ((hI34.eraseH 0).trans (x54.trans (x57.trans (hI56.eraseH 0))))))) rfl rfl (show InK .i64 n from f_n_0) Tryd.underlying79 Tryd.zeroValue3 ⟨_, ⟨rfl, (by decide)⟩, .inr ⟨rfl, rfl⟩⟩ rfl ?_
 intro v62 hv63
 rw [Option.some.inj hy61] at hv63
 have hR64 := Vl.one1 hv63
 obtain ⟨r65', r65⟩ := hR64
 obtain rfl := one_inj r65'
 refine s_mv rfl rfl (s_xt rfl rfl rfl (s_xt rfl rfl rfl (s_as rfl rfl (s_as rfl rfl (Reg.nil (cw_seq (cw_regF (s_fa rfl Tryd.underlying92 rfl Tryd.sizeOf79 rfl (s_ld rfl ((hC37.adv (x54.trans (x57.trans (hI56.eraseH 0)))).cells.at 2 rfl) Tryd.isAgg79 rfl (s_mv rfl rfl ?_))))))))))
 obtain ⟨y66, hy66, h⟩ := bnd h
 refine s_lkF (a := n) (z0 := 0) (hf27.adv (x32.trans (x35.trans ((hI34.eraseH 0).trans (x54.trans (x57.trans (hI56.eraseH 0))))))) rfl rfl (show InK .i64 n from f_n_0) Tryd.underlying79 Tryd.zeroValue3 ⟨_, ⟨rfl, (by decide)⟩, .inr ⟨rfl, rfl⟩⟩ rfl ?_
 intro v67 hv68
 rw [Option.some.inj hy66] at hv68
 have hR69 := Vl.one1 hv68
 obtain ⟨r70', r70⟩ := hR69
 obtain rfl := one_inj r70'
 refine s_mv rfl rfl (s_xt rfl rfl rfl (s_xt rfl rfl rfl (s_as rfl rfl (s_as rfl rfl (Reg.nil (cw_seq (cw_regF (s_fa rfl Tryd.underlying92 rfl Tryd.sizeOf90 rfl (s_lda rfl (Cells.sub (hC37.adv (x54.trans (x57.trans (hI56.eraseH 0)))).cells 0 1) Tryd.isAgg90 rfl Tryd.sizeOf90 rfl (s_lda rfl hC59.cells Tryd.isAgg61 rfl Tryd.sizeOf61 rfl ?_))))))))))
 obtain ⟨⟨z71, z72⟩, hz73, h⟩ := bnd h
 refine s_call rfl Tryd.call42 rfl ((C_account_store_aim (s := (Store.mk z18.store.reports)) (r := (Report.mk y38.id y38.source y38.account y38.made y38.about y38.kind y38.cents y38.of_)) hI58.mlt (hf23.adv (x32.trans (x35.trans ((hI34.eraseH 0).trans (x54.trans (x57.trans (hI56.eraseH 0))))))) r43 r44 r45 r46 r47 r48 r49 r50 hz73).mono ?_)
 rintro _ w74 ⟨rfl, r76, r77, r78, r79, r80, r81, r82, r83, e75⟩
 refine ⟨_, rfl, ?_⟩
 have hI84 := hI58.ext e75
 refine s_mv rfl rfl (s_xt rfl rfl rfl (s_xt rfl rfl rfl (y_al hI84 Tryd.zeroValue61 rfl rfl ?_)))
 intro b85 w86 hI87 x88
 refine y_st 0 hI87 rfl rfl rfl rfl Tryd.sizeOf61 rfl rfl (on8 rfl rfl rfl rfl rfl rfl rfl rfl) ?_
 intro w89 hI90 x91
 have hC93 := hI90.freezeRow 0 rfl
 have hI92 := hI90.erase 0
 refine s_as rfl rfl (Reg.nil ?_)
 obtain ⟨j94, h95, h⟩ := bnd h
 refine cw_keep [17, 18, 1, 10, 11, 13, 14, 15, 16] rfl (cw_seqD 2 (ι := Bool) (fun x96 => [(19, Value.bool x96)]) (fun x96 => fun w97 => w89 = w97 ∧ x96 = j94) ?_ ?_)
 ·refine cw_regF (s_fa rfl Tryd.underlying61 rfl Tryd.sizeOf5 rfl (s_ld rfl ((hC59.adv ((Adv.of_ext e75).trans (x88.trans (x91.trans (hI90.eraseH 0))))).cells.at 5 rfl) Tryd.isAgg5 rfl (s_eql rfl rfl rfl (s_mv rfl rfl (Reg.gsplit (t := 68) rfl (fun hg100 => ?_) (fun hg100 => ?_))))))
  ·replace h95 := cdT hg100 h95
   refine Reg.take rfl rfl (s_mv rfl rfl (s_pkT rfl rfl rfl (s_mv rfl rfl (Reg.gsplit (t := 71) rfl (fun hg101 => ?_) (fun hg101 => ?_)))))
   ·replace h95 := cdT hg101 h95
    refine Reg.take rfl rfl (s_fa rfl Tryd.underlying61 rfl Tryd.sizeOf5 rfl (Reg.take rfl rfl (s_ld rfl (hC93.cells.at 5 rfl) Tryd.isAgg5 rfl (Reg.take rfl rfl (s_neq rfl rfl rfl (s_pkT rfl rfl rfl (s_as rfl rfl (Reg.nil ?_))))))))
    obtain rfl := Option.some.inj h95
    refine ⟨rfl, !decide (z71.kind = 9), ⟨rfl, rfl⟩, sb8 rfl rfl rfl rfl rfl rfl rfl rfl⟩
   replace h95 := cdF hg101 h95
   iterate 3 refine Reg.pass rfl rfl rfl rfl ?_
   refine s_pkF rfl rfl rfl (s_as rfl rfl (Reg.nil ?_))
   obtain rfl := Option.some.inj h95
   refine ⟨rfl, false, ⟨rfl, rfl⟩, sb8 rfl rfl rfl rfl rfl rfl rfl rfl⟩
  replace h95 := cdF hg100 h95
  refine Reg.pass rfl rfl rfl rfl (s_pkF rfl rfl rfl (s_mv rfl rfl ?_))
  iterate 3 refine Reg.pass rfl rfl rfl rfl ?_
  refine s_pkF rfl rfl rfl (s_as rfl rfl (Reg.nil ?_))
  obtain rfl := Option.some.inj h95
  refine ⟨rfl, false, ⟨rfl, rfl⟩, sb8 rfl rfl rfl rfl rfl rfl rfl rfl⟩
 rintro x96 _ ⟨rfl, rfl⟩
 obtain ⟨j102, h103, h⟩ := bnd h
 refine cw_keep [1, 10, 19, 11, 13, 14, 15, 16] rfl (cw_seqD 3 (ι := Bool) (fun x104 => [(19, Value.bool x104)]) (fun x104 => fun w105 => w89 = w105 ∧ x104 = j102) ?_ ?_)
 ·refine cw_seq (cw_regF (s_fa rfl Tryd.underlying61 rfl Tryd.sizeOf5 rfl (s_ld rfl ((hC59.adv ((Adv.of_ext e75).trans (x88.trans (x91.trans (hI90.eraseH 0))))).cells.at 5 rfl) Tryd.isAgg5 rfl (s_eql rfl rfl rfl (Reg.nil ?_)))))
  obtain ⟨j108, h109, h103⟩ := bnd h103
  refine cw_keep [1, 10, 19, 78, 11, 13, 14, 15, 16] rfl (cw_unitD 4 (ι := Bool) (fun x110 => [(19, Value.bool x110)]) (fun x110 => fun w111 => w89 = w111 ∧ x110 = j108) ?_ ?_)
  ·refine cw_cond rfl (fun hc114 => ?_) (fun hc114 => ?_)
   ·replace h109 := cdT hc114 h109
    refine cw_seq (cw_regF (s_fa rfl Tryd.underlying92 rfl Tryd.sizeOf79 rfl (s_ld rfl ((hC37.adv (x54.trans (x57.trans ((hI56.eraseH 0).trans ((Adv.of_ext e75).trans (x88.trans (x91.trans (hI90.eraseH 0)))))))).cells.at 2 rfl) Tryd.isAgg79 rfl (s_fa rfl Tryd.underlying61 rfl Tryd.sizeOf3 rfl (s_ld rfl ((hC59.adv ((Adv.of_ext e75).trans (x88.trans (x91.trans (hI90.eraseH 0))))).cells.at 7 rfl) Tryd.isAgg3 rfl ?_)))))
    obtain ⟨y115, hy115, h109⟩ := bnd h109
    refine s_lkF (a := y38.of_) (z0 := 0) (hf27.adv (x32.trans (x35.trans ((hI34.eraseH 0).trans (x54.trans (x57.trans ((hI56.eraseH 0).trans ((Adv.of_ext e75).trans (x88.trans (x91.trans (hI90.eraseH 0))))))))))) rfl rfl (show InK .i64 y38.of_ from r50) Tryd.underlying79 Tryd.zeroValue3 ⟨_, ⟨rfl, (by decide)⟩, .inr ⟨rfl, rfl⟩⟩ rfl ?_
    intro v116 hv117
    rw [Option.some.inj hy115] at hv117
    have hR118 := Vl.one1 hv117
    obtain ⟨r119', r119⟩ := hR118
    obtain rfl := one_inj r119'
    refine s_mv rfl rfl (s_xt rfl rfl rfl (s_xt rfl rfl rfl (s_as rfl rfl (s_as rfl rfl (Reg.nil ?_)))))
    obtain ⟨j120, h121, h109⟩ := bnd h109
    refine cw_keep [1, 20, 21, 11, 13, 14, 15, 16] rfl (cw_unitD 3 (ι := Bool) (fun x122 => [(19, Value.bool x122)]) (fun x122 => fun w123 => w89 = w123 ∧ x122 = j120) ?_ ?_)
    ·refine cw_regF (s_mv rfl rfl (s_mv rfl rfl (Reg.gsplit (t := 88) rfl (fun hg126 => ?_) (fun hg126 => ?_))))
     ·replace h121 := cdT hg126 h121
      refine Reg.take rfl rfl (s_mv rfl rfl (Reg.take rfl rfl (s_mv rfl rfl (Reg.take rfl rfl (s_eql rfl rfl rfl (s_pkT rfl rfl rfl (s_as rfl rfl (Reg.nil ?_))))))))
      obtain rfl := Option.some.inj h121
      refine ⟨rfl, decide (y115 = n), ⟨rfl, rfl⟩, sb6 rfl rfl rfl rfl rfl rfl⟩
     replace h121 := cdF hg126 h121
     iterate 3 refine Reg.pass rfl rfl rfl rfl ?_
     refine s_pkF rfl rfl rfl (s_as rfl rfl (Reg.nil ?_))
     obtain rfl := Option.some.inj h121
     refine ⟨rfl, false, ⟨rfl, rfl⟩, sb6 rfl rfl rfl rfl rfl rfl⟩
    rintro x122 _ ⟨rfl, rfl⟩
    obtain rfl := Option.some.inj h109
    refine ⟨rfl, x122, ⟨rfl, rfl⟩, sb6 rfl rfl rfl rfl rfl rfl⟩
   replace h109 := cdF hc114 h109
   refine cw_skip ?_
   obtain rfl := Option.some.inj h109
   refine ⟨rfl, x96, ⟨rfl, rfl⟩, sb6 rfl rfl rfl rfl rfl rfl⟩
  rintro x110 _ ⟨rfl, rfl⟩
  obtain rfl := Option.some.inj h103
  refine ⟨rfl, x110, ⟨rfl, rfl⟩, sb6 rfl rfl rfl rfl rfl rfl⟩
 rintro x104 _ ⟨rfl, rfl⟩
 refine cw_seq (cw_block (cw_seq (cw_regF (s_mv rfl rfl (s_as rfl rfl (Reg.nil (cw_cond rfl (fun hc127 => ?_) (fun hc127 => ?_))))))))
 ·replace h := cdT hc127 h
  refine cw_seq (cw_regF (s_mv rfl rfl ?_))
  iterate 3 refine s_as rfl rfl ?_
  refine Reg.nil (cw_ret ?_)
  obtain ⟨rfl, rfl, rfl⟩ := inj3 h
  refine fin3 Tryd.results15 rfl rfl rfl ?_
  exact ⟨rfl, (by decide), r65, (by decide), hI92.kp⟩
 replace h := cdF hc127 h
 refine cw_seq (cw_regF (s_mv rfl rfl (s_as rfl rfl (Reg.nil (cw_cond rfl (fun hc128 => ?_) (fun hc128 => ?_))))))
 ·replace h := cdT hc128 h
  refine cw_seq (cw_regF ?_)
  iterate 3 refine s_as rfl rfl ?_
  refine Reg.nil (cw_ret ?_)
  obtain ⟨rfl, rfl, rfl⟩ := inj3 h
  refine fin3 Tryd.results15 rfl rfl rfl ?_
  exact ⟨rfl, (by decide), (by decide), (by decide), hI92.kp⟩
 replace h := cdF hc128 h
 refine cw_seq (cw_regF (s_lda rfl (hC59.adv ((Adv.of_ext e75).trans (x88.trans (x91.trans (hI90.eraseH 0))))).cells Tryd.isAgg61 rfl Tryd.sizeOf61 rfl ?_))
 obtain ⟨z129, hz130, h⟩ := bnd h
 refine s_call rfl Tryd.call43 rfl ((C_account_fact (r := (Report.mk y38.id y38.source y38.account y38.made y38.about y38.kind y38.cents y38.of_)) hI92.mlt r43 r44 r45 r46 r47 r48 r49 r50 hz130).mono ?_)
 rintro _ w131 ⟨rfl, e132⟩
 refine ⟨_, rfl, ?_⟩
 have hI133 := hI92.ext e132
 refine s_not rfl rfl (s_as rfl rfl (Reg.nil (cw_cond rfl (fun hc134 => ?_) (fun hc134 => ?_))))
 ·replace h := cdT hc134 h
  refine cw_seq (cw_regF ?_)
  iterate 3 refine s_as rfl rfl ?_
  refine Reg.nil (cw_ret ?_)
  obtain ⟨rfl, rfl, rfl⟩ := inj3 h
  refine fin3 Tryd.results15 rfl rfl rfl ?_
  exact ⟨rfl, (by decide), (by decide), (by decide), hI133.kp⟩
 replace h := cdF hc134 h
 refine cw_seq (cw_regF (s_mv rfl rfl (s_as rfl rfl (Reg.nil (cw_cond rfl (fun hc135 => ?_) (fun hc135 => ?_))))))
 ·replace h := cdT hc135 h
  refine cw_seq (cw_regF (s_mv rfl rfl ?_))
  iterate 3 refine s_as rfl rfl ?_
  refine Reg.nil (cw_ret ?_)
  obtain ⟨rfl, rfl, rfl⟩ := inj3 h
  refine fin3 Tryd.results15 rfl rfl rfl ?_
  exact ⟨rfl, (by decide), r70, (by decide), hI133.kp⟩
 replace h := cdF hc135 h
 refine cw_skip (cw_seq (cw_regF ?_))
 iterate 3 refine s_as rfl rfl ?_
 refine Reg.nil (cw_ret ?_)
 obtain ⟨rfl, rfl, rfl⟩ := inj3 h
 refine fin3 Tryd.results15 rfl rfl rfl ?_
 exact ⟨rfl, (by decide), (by decide), (by decide), hI133.kp⟩
end Go.Proofs.YtepjkmoipjeghaaDoor
set_option maxRecDepth 20000
set_option maxHeartbeats 4000000
namespace Go.Proofs.YtepjkmoipjeghaaDoor
open Go Go.Sx Go.RowKit
variable [Trk]
noncomputable def P.account_about (r : Report) : Option Int :=
  some r.about
theorem C_account_about {M : List Nat} {w : World} (hM : MLt M w) {r : Report} (f_r_0 : InK .i64 r.id) (f_r_1 : InK .i64 r.source) (f_r_2 : InK .i64 r.account) (f_r_3 : InK .i64 r.made) (f_r_4 : InK .i64 r.about) (f_r_5 : InK .u8 r.kind) (f_r_6 : InK .i64 r.cents) (f_r_7 : InK .i64 r.of_) {r0 : Int} (h : P.account_about r = some r0) :
  Calls Tryd.prog 75 (List.toArray [Value.agg (List.toArray (vR r))]) w fun e w' => e = .returned (vi r0) ∧ InK .i64 r0 ∧ Ext w w' := by
 have hI := Hp.start (Mu := []) hM
 refine calls_cw Tryd.func75 rfl Tryd.ntmps75 rfl ?_
 refine cw_seq (cw_regF (y_box hI rfl rfl rfl ?_))
 intro b1 w2 hI3 x4
 have hC6 := hI3.freezeRow 0 rfl
 have hI5 := hI3.erase 0
 refine s_as rfl rfl (Reg.nil (cw_seq (cw_regF (s_fa rfl Tryd.underlying61 rfl Tryd.sizeOf3 rfl (s_ld rfl (hC6.cells.at 4 rfl) Tryd.isAgg3 rfl (s_as rfl rfl (Reg.nil (cw_ret ?_))))))))
 obtain rfl := Option.some.inj h
 refine fin1 Tryd.results75 rfl ?_
 exact ⟨rfl, f_r_4, hI5.kp⟩
noncomputable def P.account_id (r : Report) : Option Int :=
  some r.id
theorem C_account_id {M : List Nat} {w : World} (hM : MLt M w) {r : Report} (f_r_0 : InK .i64 r.id) (f_r_1 : InK .i64 r.source) (f_r_2 : InK .i64 r.account) (f_r_3 : InK .i64 r.made) (f_r_4 : InK .i64 r.about) (f_r_5 : InK .u8 r.kind) (f_r_6 : InK .i64 r.cents) (f_r_7 : InK .i64 r.of_) {r0 : Int} (h : P.account_id r = some r0) :
  Calls Tryd.prog 76 (List.toArray [Value.agg (List.toArray (vR r))]) w fun e w' => e = .returned (vi r0) ∧ InK .i64 r0 ∧ Ext w w' := by
 have hI := Hp.start (Mu := []) hM
 refine calls_cw Tryd.func76 rfl Tryd.ntmps76 rfl ?_
 refine cw_seq (cw_regF (y_box hI rfl rfl rfl ?_))
 intro b1 w2 hI3 x4
 have hC6 := hI3.freezeRow 0 rfl
 have hI5 := hI3.erase 0
 refine s_as rfl rfl (Reg.nil (cw_seq (cw_regF (s_fa rfl Tryd.underlying61 rfl Tryd.sizeOf3 rfl (s_ld rfl (hC6.cells.at 0 rfl) Tryd.isAgg3 rfl (s_as rfl rfl (Reg.nil (cw_ret ?_))))))))
 obtain rfl := Option.some.inj h
 refine fin1 Tryd.results76 rfl ?_
 exact ⟨rfl, f_r_0, hI5.kp⟩
end Go.Proofs.YtepjkmoipjeghaaDoor
namespace Go.Proofs.YtepjkmoipjeghaaDoor
open Go Go.Sx Go.RowKit
variable [Trk]
theorem sl145 : SlT Tryd.prog 145 135 1 8 := ⟨Tryd.underlying145, Tryd.t135, _, by kernel_rfl, rfl, rfl, rfl, rfl⟩
noncomputable def P.fn135 (n : Nat) (r : Report) : Option Int := if n = 75 then P.account_about r else if n = 76 then P.account_id r else none
theorem C_fn135 {M : List Nat} {w : World} (hM : MLt M w) {n : Nat} {r : Report} (f0 : InK .i64 r.id) (f1 : InK .i64 r.source) (f2 : InK .i64 r.account) (f3 : InK .i64 r.made) (f4 : InK .i64 r.about) (f5 : InK .u8 r.kind) (f6 : InK .i64 r.cents) (f7 : InK .i64 r.of_) {r0 : Int} (h : P.fn135 n r = some r0) :
    CallsV Tryd.prog (.func (.func n) #[] #[]) [.agg (List.toArray [.int .i64 r.id, .int .i64 r.source, .int .i64 r.account, .int .i64 r.made, .int .i64 r.about, .int .u8 r.kind, .int .i64 r.cents, .int .i64 r.of_])] w fun e w' => e = .returned (.int .i64 r0) ∧ InK .i64 r0 ∧ Ext w w' := by
  unfold P.fn135 at h
  split at h
  · rename_i e
    subst e
    exact CallsV.ofL Tryd.call75 rfl (C_account_about hM f0 f1 f2 f3 f4 f5 f6 f7 h)
  · split at h
    · rename_i e
      subst e
      exact CallsV.ofL Tryd.call76 rfl (C_account_id hM f0 f1 f2 f3 f4 f5 f6 f7 h)
    · cases h
end Go.Proofs.YtepjkmoipjeghaaDoor
