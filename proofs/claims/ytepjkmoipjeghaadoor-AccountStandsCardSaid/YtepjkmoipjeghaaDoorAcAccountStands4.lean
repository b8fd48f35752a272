/-
  Part AccountStands 4 of the texts that the statement's proof stands on: what memory holds, how code is walked, what the functions reckon. In the order in which they build.
-/
import Derived.Test.YtepjkmoipjeghaaDoorProg
import Derived.Test.YtepjkmoipjeghaaDoorAcAccountStands3
set_option linter.unusedVariables false
set_option linter.unusedSectionVars false
set_option maxRecDepth 20000
set_option maxHeartbeats 4000000
namespace Go.Proofs.YtepjkmoipjeghaaDoor
open Go Go.Sx Go.RowKit
variable [Trk]
noncomputable def P.account_store_aim (s : Store) (r : Report) : Option (Report × Bool) :=
 Option.bind (some ((s.reports r.of_).getD (Report.mk 0 0 0 0 0 0 0 0))) fun y17 => Option.bind (cond ((s.reports r.of_).isSome) (cond (decide (y17.source = r.source)) (some (decide (y17.account = r.account), y17.id, y17.source, y17.account, y17.made, y17.about, y17.kind, y17.cents, y17.of_)) (some (false, y17.id, y17.source, y17.account, y17.made, y17.about, y17.kind, y17.cents, y17.of_))) (some (false, y17.id, y17.source, y17.account, y17.made, y17.about, y17.kind, y17.cents, y17.of_))) fun (x131, x132, x133, x134, x135, x136, x137, x138, x139) => some ((Report.mk x132 x133 x134 x135 x136 x137 x138 x139), x131)
theorem C_account_store_aim {M : List Nat} {w : World} (hM : MLt M w) {s : Store} {v_s_0 : Value} (f_s_0 : RdF Ky3 ReportE true M w v_s_0 s.reports) {r : Report} (f_r_0 : InK .i64 r.id) (f_r_1 : InK .i64 r.source) (f_r_2 : InK .i64 r.account) (f_r_3 : InK .i64 r.made) (f_r_4 : InK .i64 r.about) (f_r_5 : InK IntKind.u8 r.kind) (f_r_6 : InK .i64 r.cents) (f_r_7 : InK .i64 r.of_) {r0 : Report} {r1 : Bool} (h : P.account_store_aim s r = some (r0, r1)) :
  Calls Tryd.prog 42 (List.toArray [Value.agg (List.toArray [v_s_0]), Value.agg (List.toArray [Value.int .i64 r.id, Value.int .i64 r.source, Value.int .i64 r.account, Value.int .i64 r.made, Value.int .i64 r.about, Value.int IntKind.u8 r.kind, Value.int .i64 r.cents, Value.int .i64 r.of_])]) w fun e w' => e = .returned (Value.tuple (List.toArray [Value.agg (List.toArray [Value.int .i64 r0.id, Value.int .i64 r0.source, Value.int .i64 r0.account, Value.int .i64 r0.made, Value.int .i64 r0.about, Value.int IntKind.u8 r0.kind, Value.int .i64 r0.cents, Value.int .i64 r0.of_]), Value.bool r1])) ∧ InK .i64 r0.id ∧ InK .i64 r0.source ∧ InK .i64 r0.account ∧ InK .i64 r0.made ∧ InK .i64 r0.about ∧ InK IntKind.u8 r0.kind ∧ InK .i64 r0.cents ∧ InK .i64 r0.of_ ∧ Ext w w' := by
 have hI := Hp.start (Mu := []) hM
 refine calls_cw Tryd.func42 rfl Tryd.ntmps42 rfl ?_
 refine cw_seq (cw_regF ?_)
 refine y_box hI rfl rfl rfl ?_
 intro b1 w2 hI3 x4
 have hC6 := hI3.freezeRow 0 rfl
 have hI5 := hI3.erase 0
 refine y_box hI5 rfl rfl rfl ?_
 intro b7 w8 hI9 x10
 have hC12 := hI9.freezeRow 0 rfl
 have hI11 := hI9.erase 0
 refine y_al hI11 Tryd.zeroValue61 rfl rfl ?_
 intro b13 w14 hI15 x16
 refine s_as rfl rfl ?_
 refine Reg.nil ?_
 refine cw_seq (cw_regF ?_)
 refine s_fa rfl Tryd.underlying90 rfl Tryd.sizeOf88 rfl ?_
 refine s_ld rfl ((hC6.adv (x10.trans ((Hp.eraseA (σ := [rowR 61 b7 [Value.int .i64 r.id, Value.int .i64 r.source, Value.int .i64 r.account, Value.int .i64 r.made, Value.int .i64 r.about, Value.int IntKind.u8 (r.kind), Value.int .i64 r.cents, Value.int .i64 r.of_]]) 0).trans x16))).cells.at 0 rfl) Tryd.isAgg88 rfl ?_
 refine s_fa rfl Tryd.underlying61 rfl Tryd.sizeOf3 rfl ?_
 refine s_ld rfl ((hC12.adv x16).cells.at 7 rfl) Tryd.isAgg3 rfl ?_
 obtain ⟨y17, hy17, h⟩ := bnd h
 refine s_lkF (a := r.of_) (z0 := (Report.mk 0 0 0 0 0 0 0 0)) (f_s_0.adv hI15.adv) rfl rfl (show InK .i64 r.of_ from f_r_7) Tryd.underlying88 Tryd.zeroValue61 ⟨_, ((ReportE_R (x := (Report.mk 0 0 0 0 0 0 0 0))).2 ⟨rfl, (by decide), (by decide), (by decide), (by decide), (by decide), (by decide), (by decide), (by decide)⟩), .inl ⟨rfl, rfl⟩⟩ rfl ?_
 intro v18 hv19
 rw [Option.some.inj hy17] at hv19
 obtain ⟨cs20, hR21, rfl⟩ := Vl.agg hv19
 obtain ⟨rfl, r22, r23, r24, r25, r26, r27, r28, r29⟩ := ReportE_R.1 hR21
 refine s_mv rfl rfl ?_
 refine s_xt rfl rfl rfl ?_
 refine s_xt rfl rfl rfl ?_
 refine y_al hI15 Tryd.zeroValue61 rfl rfl ?_
 intro b30 w31 hI32 x33
 refine y_st 0 hI32 rfl rfl rfl rfl Tryd.sizeOf61 rfl rfl (one1 rfl (one1 rfl (one1 rfl (one1 rfl (one1 rfl (one1 rfl (one1 rfl (one1 rfl one0)))))))) ?_
 intro w34 hI35 x36
 have hC38 := hI35.freezeRow 0 rfl
 have hI37 := hI35.erase 0
 refine s_as rfl rfl ?_
 refine Reg.nil ?_
 obtain ⟨j39, h40, h⟩ := bnd h
 refine cw_sub (L := [(3, _), (6, _), (7, _), (4, _)]) (Sub.cons rfl (Sub.cons rfl (Sub.cons rfl (Sub.cons rfl (Sub.nil _))))) ?_
 refine cw_seqD 3 (ι := Bool × Int × Int × Int × Int × Int × Int × Int × Int) (fun ⟨x41, x42, x44, x46, x48, x50, x52, x54, x56⟩ => [(5, Value.bool x41)]) (fun ⟨x41, x42, x44, x46, x48, x50, x52, x54, x56⟩ => fun w58 => Hp w [] M [rowR 61 b13 [Value.int .i64 x42, Value.int .i64 x44, Value.int .i64 x46, Value.int .i64 x48, Value.int .i64 x50, Value.int IntKind.u8 (x52), Value.int .i64 x54, Value.int .i64 x56]] w58 ∧ Adv (mm [rowR 61 b13 [Value.int .i64 0, Value.int .i64 0, Value.int .i64 0, Value.int .i64 0, Value.int .i64 0, Value.int IntKind.u8 (0), Value.int .i64 0, Value.int .i64 0]] M) (mm [rowR 61 b13 [Value.int .i64 x42, Value.int .i64 x44, Value.int .i64 x46, Value.int .i64 x48, Value.int .i64 x50, Value.int IntKind.u8 (x52), Value.int .i64 x54, Value.int .i64 x56]] M) w34 w58 ∧ InK .i64 x42 ∧ InK .i64 x44 ∧ InK .i64 x46 ∧ InK .i64 x48 ∧ InK .i64 x50 ∧ InK IntKind.u8 x52 ∧ InK .i64 x54 ∧ InK .i64 x56 ∧ (x41, x42, x44, x46, x48, x50, x52, x54, x56) = j39) ?_ ?_
 ·skip
  refine cw_regSea [0, 1, 2, 3, 4, 5, 6, 7, 8, 9] [10, 11, 12, 13, 14, 15, 16, 17] [] [16] [[16, 0], [16, 9, 8, 7, 4, 3], [16, 9, 8, 7, 6, 5]] [] fol (by kernel_rfl) rfl (by kernel_rfl) rfl rfl ?_
  refine s_lda rfl hC38.cells Tryd.isAgg61 rfl Tryd.sizeOf61 rfl ?_
  refine s_mv rfl rfl ?_
  refine s_mv rfl rfl ?_
  refine Reg.gsplit (t := 18) rfl (fun hg61 => ?_) (fun hg61 => ?_)
  ·replace h40 := cdT hg61 h40
   refine Reg.take rfl rfl ?_
   refine s_fa rfl Tryd.underlying61 rfl Tryd.sizeOf3 rfl ?_
   refine Reg.take rfl rfl ?_
   refine s_ld rfl (hC38.cells.at 1 rfl) Tryd.isAgg3 rfl ?_
   refine Reg.take rfl rfl ?_
   refine s_fa rfl Tryd.underlying61 rfl Tryd.sizeOf3 rfl ?_
   refine Reg.take rfl rfl ?_
   refine s_ld rfl ((hC12.adv (x16.trans (x33.trans (x36.trans (Hp.eraseA (σ := [rowR 61 b30 [Value.int .i64 y17.id, Value.int .i64 y17.source, Value.int .i64 y17.account, Value.int .i64 y17.made, Value.int .i64 y17.about, Value.int IntKind.u8 (y17.kind), Value.int .i64 y17.cents, Value.int .i64 y17.of_], rowR 61 b13 [Value.int .i64 0, Value.int .i64 0, Value.int .i64 0, Value.int .i64 0, Value.int .i64 0, Value.int IntKind.u8 (0), Value.int .i64 0, Value.int .i64 0]]) 0))))).cells.at 1 rfl) Tryd.isAgg3 rfl ?_
   refine Reg.take rfl rfl ?_
   refine s_eql rfl rfl rfl ?_
   refine s_pkT rfl rfl rfl ?_
   refine s_mv rfl rfl ?_
   refine Reg.nilX ⟨rfl, rfl, rfl, ?_⟩
   intro w62 e63
   have hI64 := (Hp.start (Mu := []) hI37.mlt).ext e63
   refine bsplit (b := decide (y17.source = r.source)) (fun hg65 => ?_) (fun hg65 => ?_)
   ·replace h40 := cdT hg65 h40
    rw [show Value.bool (decide (y17.source = r.source)) = Value.bool true from congrArg Value.bool hg65]
    refine SeaWalk.dag [([10, 11, 12, 13, 14, 15, 16, 17], _, fun w_ => Ext w34 w_), ([11, 12, 13, 14, 15, 16, 17], [(3, Value.pointer (some ⟨b7, 0, none⟩)), (4, Value.pointer (some ⟨b13, 0, none⟩)), (16, Value.agg (List.toArray [Value.int .i64 y17.id, Value.int .i64 y17.source, Value.int .i64 y17.account, Value.int .i64 y17.made, Value.int .i64 y17.about, Value.int IntKind.u8 (y17.kind), Value.int .i64 y17.cents, Value.int .i64 y17.of_])), (25, Value.bool true), (26, Value.pointer (some ⟨b30, 2, none⟩))], fun w_ => Ext w34 w_), ([10, 11, 13, 14, 15, 16, 17], [(4, Value.pointer (some ⟨b13, 0, none⟩)), (6, Value.pointer (some ⟨b30, 0, none⟩)), (16, Value.agg (List.toArray [Value.int .i64 y17.id, Value.int .i64 y17.source, Value.int .i64 y17.account, Value.int .i64 y17.made, Value.int .i64 y17.about, Value.int IntKind.u8 (y17.kind), Value.int .i64 y17.cents, Value.int .i64 y17.of_])), (25, Value.bool true), (28, Value.pointer (some ⟨b7, 2, none⟩))], fun w_ => Ext w34 w_), ([10, 11, 12, 13, 14, 15, 17], [(3, Value.pointer (some ⟨b7, 0, none⟩)), (4, Value.pointer (some ⟨b13, 0, none⟩)), (6, Value.pointer (some ⟨b30, 0, none⟩)), (25, Value.bool true)], fun w_ => Hp w [] M [rowR 61 b13 [Value.int .i64 y17.id, Value.int .i64 y17.source, Value.int .i64 y17.account, Value.int .i64 y17.made, Value.int .i64 y17.about, Value.int IntKind.u8 (y17.kind), Value.int .i64 y17.cents, Value.int .i64 y17.of_]] w_ ∧ Adv (mm [rowR 61 b13 [Value.int .i64 0, Value.int .i64 0, Value.int .i64 0, Value.int .i64 0, Value.int .i64 0, Value.int IntKind.u8 (0), Value.int .i64 0, Value.int .i64 0]] M) (mm [rowR 61 b13 [Value.int .i64 y17.id, Value.int .i64 y17.source, Value.int .i64 y17.account, Value.int .i64 y17.made, Value.int .i64 y17.about, Value.int IntKind.u8 (y17.kind), Value.int .i64 y17.cents, Value.int .i64 y17.of_]] M) w34 w_), ([12, 13, 14, 15, 16, 17], [(3, Value.pointer (some ⟨b7, 0, none⟩)), (4, Value.pointer (some ⟨b13, 0, none⟩)), (16, Value.agg (List.toArray [Value.int .i64 y17.id, Value.int .i64 y17.source, Value.int .i64 y17.account, Value.int .i64 y17.made, Value.int .i64 y17.about, Value.int IntKind.u8 (y17.kind), Value.int .i64 y17.cents, Value.int .i64 y17.of_])), (25, Value.bool true), (27, Value.int .i64 y17.account)], fun w_ => Ext w34 w_), ([11, 13, 14, 15, 16, 17], [(4, Value.pointer (some ⟨b13, 0, none⟩)), (16, Value.agg (List.toArray [Value.int .i64 y17.id, Value.int .i64 y17.source, Value.int .i64 y17.account, Value.int .i64 y17.made, Value.int .i64 y17.about, Value.int IntKind.u8 (y17.kind), Value.int .i64 y17.cents, Value.int .i64 y17.of_])), (25, Value.bool true), (26, Value.pointer (some ⟨b30, 2, none⟩)), (28, Value.pointer (some ⟨b7, 2, none⟩))], fun w_ => Ext w34 w_), ([11, 12, 13, 14, 15, 17], [(3, Value.pointer (some ⟨b7, 0, none⟩)), (4, Value.pointer (some ⟨b13, 0, none⟩)), (25, Value.bool true), (26, Value.pointer (some ⟨b30, 2, none⟩))], fun w_ => Hp w [] M [rowR 61 b13 [Value.int .i64 y17.id, Value.int .i64 y17.source, Value.int .i64 y17.account, Value.int .i64 y17.made, Value.int .i64 y17.about, Value.int IntKind.u8 (y17.kind), Value.int .i64 y17.cents, Value.int .i64 y17.of_]] w_ ∧ Adv (mm [rowR 61 b13 [Value.int .i64 0, Value.int .i64 0, Value.int .i64 0, Value.int .i64 0, Value.int .i64 0, Value.int IntKind.u8 (0), Value.int .i64 0, Value.int .i64 0]] M) (mm [rowR 61 b13 [Value.int .i64 y17.id, Value.int .i64 y17.source, Value.int .i64 y17.account, Value.int .i64 y17.made, Value.int .i64 y17.about, Value.int IntKind.u8 (y17.kind), Value.int .i64 y17.cents, Value.int .i64 y17.of_]] M) w34 w_), ([10, 11, 14, 15, 16, 17], [(4, Value.pointer (some ⟨b13, 0, none⟩)), (6, Value.pointer (some ⟨b30, 0, none⟩)), (16, Value.agg (List.toArray [Value.int .i64 y17.id, Value.int .i64 y17.source, Value.int .i64 y17.account, Value.int .i64 y17.made, Value.int .i64 y17.about, Value.int IntKind.u8 (y17.kind), Value.int .i64 y17.cents, Value.int .i64 y17.of_])), (25, Value.bool true), (29, Value.int .i64 r.account)], fun w_ => Ext w34 w_), ([10, 11, 13, 14, 15, 17], [(4, Value.pointer (some ⟨b13, 0, none⟩)), (6, Value.pointer (some ⟨b30, 0, none⟩)), (25, Value.bool true), (28, Value.pointer (some ⟨b7, 2, none⟩))], fun w_ => Hp w [] M [rowR 61 b13 [Value.int .i64 y17.id, Value.int .i64 y17.source, Value.int .i64 y17.account, Value.int .i64 y17.made, Value.int .i64 y17.about, Value.int IntKind.u8 (y17.kind), Value.int .i64 y17.cents, Value.int .i64 y17.of_]] w_ ∧ Adv (mm [rowR 61 b13 [Value.int .i64 0, Value.int .i64 0, Value.int .i64 0, Value.int .i64 0, Value.int .i64 0, Value.int IntKind.u8 (0), Value.int .i64 0, Value.int .i64 0]] M) (mm [rowR 61 b13 [Value.int .i64 y17.id, Value.int .i64 y17.source, Value.int .i64 y17.account, Value.int .i64 y17.made, Value.int .i64 y17.about, Value.int IntKind.u8 (y17.kind), Value.int .i64 y17.cents, Value.int .i64 y17.of_]] M) w34 w_), ([13, 14, 15, 16, 17], [(4, Value.pointer (some ⟨b13, 0, none⟩)), (16, Value.agg (List.toArray [Value.int .i64 y17.id, Value.int .i64 y17.source, Value.int .i64 y17.account, Value.int .i64 y17.made, Value.int .i64 y17.about, Value.int IntKind.u8 (y17.kind), Value.int .i64 y17.cents, Value.int .i64 y17.of_])), (25, Value.bool true), (27, Value.int .i64 y17.account), (28, Value.pointer (some ⟨b7, 2, none⟩))], fun w_ => Ext w34 w_), ([12, 13, 14, 15, 17], [(3, Value.pointer (some ⟨b7, 0, none⟩)), (4, Value.pointer (some ⟨b13, 0, none⟩)), (25, Value.bool true), (27, Value.int .i64 y17.account)], fun w_ => Hp w [] M [rowR 61 b13 [Value.int .i64 y17.id, Value.int .i64 y17.source, Value.int .i64 y17.account, Value.int .i64 y17.made, Value.int .i64 y17.about, Value.int IntKind.u8 (y17.kind), Value.int .i64 y17.cents, Value.int .i64 y17.of_]] w_ ∧ Adv (mm [rowR 61 b13 [Value.int .i64 0, Value.int .i64 0, Value.int .i64 0, Value.int .i64 0, Value.int .i64 0, Value.int IntKind.u8 (0), Value.int .i64 0, Value.int .i64 0]] M) (mm [rowR 61 b13 [Value.int .i64 y17.id, Value.int .i64 y17.source, Value.int .i64 y17.account, Value.int .i64 y17.made, Value.int .i64 y17.about, Value.int IntKind.u8 (y17.kind), Value.int .i64 y17.cents, Value.int .i64 y17.of_]] M) w34 w_), ([11, 14, 15, 16, 17], [(4, Value.pointer (some ⟨b13, 0, none⟩)), (16, Value.agg (List.toArray [Value.int .i64 y17.id, Value.int .i64 y17.source, Value.int .i64 y17.account, Value.int .i64 y17.made, Value.int .i64 y17.about, Value.int IntKind.u8 (y17.kind), Value.int .i64 y17.cents, Value.int .i64 y17.of_])), (25, Value.bool true), (26, Value.pointer (some ⟨b30, 2, none⟩)), (29, Value.int .i64 r.account)], fun w_ => Ext w34 w_), ([11, 13, 14, 15, 17], [(4, Value.pointer (some ⟨b13, 0, none⟩)), (25, Value.bool true), (26, Value.pointer (some ⟨b30, 2, none⟩)), (28, Value.pointer (some ⟨b7, 2, none⟩))], fun w_ => Hp w [] M [rowR 61 b13 [Value.int .i64 y17.id, Value.int .i64 y17.source, Value.int .i64 y17.account, Value.int .i64 y17.made, Value.int .i64 y17.about, Value.int IntKind.u8 (y17.kind), Value.int .i64 y17.cents, Value.int .i64 y17.of_]] w_ ∧ Adv (mm [rowR 61 b13 [Value.int .i64 0, Value.int .i64 0, Value.int .i64 0, Value.int .i64 0, Value.int .i64 0, Value.int IntKind.u8 (0), Value.int .i64 0, Value.int .i64 0]] M) (mm [rowR 61 b13 [Value.int .i64 y17.id, Value.int .i64 y17.source, Value.int .i64 y17.account, Value.int .i64 y17.made, Value.int .i64 y17.about, Value.int IntKind.u8 (y17.kind), Value.int .i64 y17.cents, Value.int .i64 y17.of_]] M) w34 w_), ([10, 11, 14, 15, 17], [(4, Value.pointer (some ⟨b13, 0, none⟩)), (6, Value.pointer (some ⟨b30, 0, none⟩)), (25, Value.bool true), (29, Value.int .i64 r.account)], fun w_ => Hp w [] M [rowR 61 b13 [Value.int .i64 y17.id, Value.int .i64 y17.source, Value.int .i64 y17.account, Value.int .i64 y17.made, Value.int .i64 y17.about, Value.int IntKind.u8 (y17.kind), Value.int .i64 y17.cents, Value.int .i64 y17.of_]] w_ ∧ Adv (mm [rowR 61 b13 [Value.int .i64 0, Value.int .i64 0, Value.int .i64 0, Value.int .i64 0, Value.int .i64 0, Value.int IntKind.u8 (0), Value.int .i64 0, Value.int .i64 0]] M) (mm [rowR 61 b13 [Value.int .i64 y17.id, Value.int .i64 y17.source, Value.int .i64 y17.account, Value.int .i64 y17.made, Value.int .i64 y17.about, Value.int IntKind.u8 (y17.kind), Value.int .i64 y17.cents, Value.int .i64 y17.of_]] M) w34 w_), ([14, 15, 16, 17], [(4, Value.pointer (some ⟨b13, 0, none⟩)), (16, Value.agg (List.toArray [Value.int .i64 y17.id, Value.int .i64 y17.source, Value.int .i64 y17.account, Value.int .i64 y17.made, Value.int .i64 y17.about, Value.int IntKind.u8 (y17.kind), Value.int .i64 y17.cents, Value.int .i64 y17.of_])), (25, Value.bool true), (27, Value.int .i64 y17.account), (29, Value.int .i64 r.account)], fun w_ => Ext w34 w_), ([13, 14, 15, 17], [(4, Value.pointer (some ⟨b13, 0, none⟩)), (25, Value.bool true), (27, Value.int .i64 y17.account), (28, Value.pointer (some ⟨b7, 2, none⟩))], fun w_ => Hp w [] M [rowR 61 b13 [Value.int .i64 y17.id, Value.int .i64 y17.source, Value.int .i64 y17.account, Value.int .i64 y17.made, Value.int .i64 y17.about, Value.int IntKind.u8 (y17.kind), Value.int .i64 y17.cents, Value.int .i64 y17.of_]] w_ ∧ Adv (mm [rowR 61 b13 [Value.int .i64 0, Value.int .i64 0, Value.int .i64 0, Value.int .i64 0, Value.int .i64 0, Value.int IntKind.u8 (0), Value.int .i64 0, Value.int .i64 0]] M) (mm [rowR 61 b13 [Value.int .i64 y17.id, Value.int .i64 y17.source, Value.int .i64 y17.account, Value.int .i64 y17.made, Value.int .i64 y17.about, Value.int IntKind.u8 (y17.kind), Value.int .i64 y17.cents, Value.int .i64 y17.of_]] M) w34 w_), ([11, 14, 15, 17], [(4, Value.pointer (some ⟨b13, 0, none⟩)), (25, Value.bool true), (26, Value.pointer (some ⟨b30, 2, none⟩)), (29, Value.int .i64 r.account)], fun w_ => Hp w [] M [rowR 61 b13 [Value.int .i64 y17.id, Value.int .i64 y17.source, Value.int .i64 y17.account, Value.int .i64 y17.made, Value.int .i64 y17.about, Value.int IntKind.u8 (y17.kind), Value.int .i64 y17.cents, Value.int .i64 y17.of_]] w_ ∧ Adv (mm [rowR 61 b13 [Value.int .i64 0, Value.int .i64 0, Value.int .i64 0, Value.int .i64 0, Value.int .i64 0, Value.int IntKind.u8 (0), Value.int .i64 0, Value.int .i64 0]] M) (mm [rowR 61 b13 [Value.int .i64 y17.id, Value.int .i64 y17.source, Value.int .i64 y17.account, Value.int .i64 y17.made, Value.int .i64 y17.about, Value.int IntKind.u8 (y17.kind), Value.int .i64 y17.cents, Value.int .i64 y17.of_]] M) w34 w_), ([15, 16, 17], [(4, Value.pointer (some ⟨b13, 0, none⟩)), (16, Value.agg (List.toArray [Value.int .i64 y17.id, Value.int .i64 y17.source, Value.int .i64 y17.account, Value.int .i64 y17.made, Value.int .i64 y17.about, Value.int IntKind.u8 (y17.kind), Value.int .i64 y17.cents, Value.int .i64 y17.of_])), (25, Value.bool true), (30, Value.bool (decide (y17.account = r.account)))], fun w_ => Ext w34 w_), ([14, 15, 17], [(4, Value.pointer (some ⟨b13, 0, none⟩)), (25, Value.bool true), (27, Value.int .i64 y17.account), (29, Value.int .i64 r.account)], fun w_ => Hp w [] M [rowR 61 b13 [Value.int .i64 y17.id, Value.int .i64 y17.source, Value.int .i64 y17.account, Value.int .i64 y17.made, Value.int .i64 y17.about, Value.int IntKind.u8 (y17.kind), Value.int .i64 y17.cents, Value.int .i64 y17.of_]] w_ ∧ Adv (mm [rowR 61 b13 [Value.int .i64 0, Value.int .i64 0, Value.int .i64 0, Value.int .i64 0, Value.int .i64 0, Value.int IntKind.u8 (0), Value.int .i64 0, Value.int .i64 0]] M) (mm [rowR 61 b13 [Value.int .i64 y17.id, Value.int .i64 y17.source, Value.int .i64 y17.account, Value.int .i64 y17.made, Value.int .i64 y17.about, Value.int IntKind.u8 (y17.kind), Value.int .i64 y17.cents, Value.int .i64 y17.of_]] M) w34 w_), ([16, 17], [(4, Value.pointer (some ⟨b13, 0, none⟩)), (16, Value.agg (List.toArray [Value.int .i64 y17.id, Value.int .i64 y17.source, Value.int .i64 y17.account, Value.int .i64 y17.made, Value.int .i64 y17.about, Value.int IntKind.u8 (y17.kind), Value.int .i64 y17.cents, Value.int .i64 y17.of_])), (31, Value.bool (decide (y17.account = r.account)))], fun w_ => Ext w34 w_), ([15, 17], [(4, Value.pointer (some ⟨b13, 0, none⟩)), (25, Value.bool true), (30, Value.bool (decide (y17.account = r.account)))], fun w_ => Hp w [] M [rowR 61 b13 [Value.int .i64 y17.id, Value.int .i64 y17.source, Value.int .i64 y17.account, Value.int .i64 y17.made, Value.int .i64 y17.about, Value.int IntKind.u8 (y17.kind), Value.int .i64 y17.cents, Value.int .i64 y17.of_]] w_ ∧ Adv (mm [rowR 61 b13 [Value.int .i64 0, Value.int .i64 0, Value.int .i64 0, Value.int .i64 0, Value.int .i64 0, Value.int IntKind.u8 (0), Value.int .i64 0, Value.int .i64 0]] M) (mm [rowR 61 b13 [Value.int .i64 y17.id, Value.int .i64 y17.source, Value.int .i64 y17.account, Value.int .i64 y17.made, Value.int .i64 y17.about, Value.int IntKind.u8 (y17.kind), Value.int .i64 y17.cents, Value.int .i64 y17.of_]] M) w34 w_), ([17], [(4, Value.pointer (some ⟨b13, 0, none⟩)), (31, Value.bool (decide (y17.account = r.account)))], fun w_ => Hp w [] M [rowR 61 b13 [Value.int .i64 y17.id, Value.int .i64 y17.source, Value.int .i64 y17.account, Value.int .i64 y17.made, Value.int .i64 y17.about, Value.int IntKind.u8 (y17.kind), Value.int .i64 y17.cents, Value.int .i64 y17.of_]] w_ ∧ Adv (mm [rowR 61 b13 [Value.int .i64 0, Value.int .i64 0, Value.int .i64 0, Value.int .i64 0, Value.int .i64 0, Value.int IntKind.u8 (0), Value.int .i64 0, Value.int .i64 0]] M) (mm [rowR 61 b13 [Value.int .i64 y17.id, Value.int .i64 y17.source, Value.int .i64 y17.account, Value.int .i64 y17.made, Value.int .i64 y17.about, Value.int IntKind.u8 (y17.kind), Value.int .i64 y17.cents, Value.int .i64 y17.of_]] M) w34 w_), ([], [(4, Value.pointer (some ⟨b13, 0, none⟩)), (5, Value.bool (decide (y17.account = r.account)))], fun w_ => Hp w [] M [rowR 61 b13 [Value.int .i64 y17.id, Value.int .i64 y17.source, Value.int .i64 y17.account, Value.int .i64 y17.made, Value.int .i64 y17.about, Value.int IntKind.u8 (y17.kind), Value.int .i64 y17.cents, Value.int .i64 y17.of_]] w_ ∧ Adv (mm [rowR 61 b13 [Value.int .i64 0, Value.int .i64 0, Value.int .i64 0, Value.int .i64 0, Value.int .i64 0, Value.int IntKind.u8 (0), Value.int .i64 0, Value.int .i64 0]] M) (mm [rowR 61 b13 [Value.int .i64 y17.id, Value.int .i64 y17.source, Value.int .i64 y17.account, Value.int .i64 y17.made, Value.int .i64 y17.about, Value.int IntKind.u8 (y17.kind), Value.int .i64 y17.cents, Value.int .i64 y17.of_]] M) w34 w_)] (AllS.cons ?_ (AllS.cons ?_ (AllS.cons ?_ (AllS.cons ?_ (AllS.cons ?_ (AllS.cons ?_ (AllS.cons ?_ (AllS.cons ?_ (AllS.cons ?_ (AllS.cons ?_ (AllS.cons ?_ (AllS.cons ?_ (AllS.cons ?_ (AllS.cons ?_ (AllS.cons ?_ (AllS.cons ?_ (AllS.cons ?_ (AllS.cons ?_ (AllS.cons ?_ (AllS.cons ?_ (AllS.cons ?_ (AllS.cons ?_ (AllS.cons ?_ (AllS.nil)))))))))))))))))))))))) _ _ _ _ 0 _ rfl rfl hI64.kp
    ·skip
     intro w94 ex_
     have hI95 := (Hp.start (Mu := []) hI37.mlt).ext ex_
     refine .inr ⟨List.cons_ne_nil _ _, [10, 12, 16], by kernel_rfl, AllL.cons ?_ (AllL.cons ?_ (AllL.cons ?_ (AllL.nil)))⟩
     ·skip
      refine ⟨_, rfl, fun Q_ hQ_ => ?_⟩
      refine Reg.take rfl rfl ?_
      refine s_fa rfl Tryd.underlying61 rfl Tryd.sizeOf3 rfl ?_
      refine Reg.nilS (L0 := [(3, _), (4, _), (16, _), (25, _), (26, _)]) (Sub.cons rfl (Sub.cons rfl (Sub.cons rfl (Sub.cons rfl (Sub.cons rfl (Sub.nil _)))))) (hQ_ 1 _ _ _ rfl (.inr hI95.kp) rfl (fun w_ e_ => ?_))
      exact ex_.trans e_
     ·skip
      refine ⟨_, rfl, fun Q_ hQ_ => ?_⟩
      refine Reg.take rfl rfl ?_
      refine s_fa rfl Tryd.underlying61 rfl Tryd.sizeOf3 rfl ?_
      refine Reg.nilS (L0 := [(4, _), (6, _), (16, _), (25, _), (28, _)]) (Sub.cons rfl (Sub.cons rfl (Sub.cons rfl (Sub.cons rfl (Sub.cons rfl (Sub.nil _)))))) (hQ_ 2 _ _ _ rfl (.inr hI95.kp) rfl (fun w_ e_ => ?_))
      exact ex_.trans e_
     ·skip
      refine ⟨_, rfl, fun Q_ hQ_ => ?_⟩
      have hI96 := hI37.join hI95
      refine y_st 0 hI96 rfl rfl rfl rfl Tryd.sizeOf61 rfl rfl (one1 rfl (one1 rfl (one1 rfl (one1 rfl (one1 rfl (one1 rfl (one1 rfl (one1 rfl one0)))))))) ?_
      intro w97 hI98 x99
      refine Reg.nilS (L0 := [(3, _), (4, _), (6, _), (25, _)]) (Sub.cons rfl (Sub.cons rfl (Sub.cons rfl (Sub.cons rfl (Sub.nil _))))) (hQ_ 3 _ _ _ rfl (.inl rfl) rfl (fun w_ e_ => ?_))
      exact ⟨hI98.ext e_, ((Adv.of_ext ex_).trans x99).trans (Adv.of_ext e_)⟩
    ·skip
     intro w100 ex_
     have hI101 := (Hp.start (Mu := []) hI37.mlt).ext ex_
     refine .inr ⟨List.cons_ne_nil _ _, [11, 12, 16], by kernel_rfl, AllL.cons ?_ (AllL.cons ?_ (AllL.cons ?_ (AllL.nil)))⟩
     ·skip
      refine ⟨_, rfl, fun Q_ hQ_ => ?_⟩
      refine Reg.take rfl rfl ?_
      refine s_ld rfl ((hC38.adv (Adv.of_ext ex_)).cells.at 2 rfl) Tryd.isAgg3 rfl ?_
      refine Reg.nilS (L0 := [(3, _), (4, _), (16, _), (25, _), (27, _)]) (Sub.cons rfl (Sub.cons rfl (Sub.cons rfl (Sub.cons rfl (Sub.cons rfl (Sub.nil _)))))) (hQ_ 4 _ _ _ rfl (.inr hI101.kp) rfl (fun w_ e_ => ?_))
      exact ex_.trans e_
     ·skip
      refine ⟨_, rfl, fun Q_ hQ_ => ?_⟩
      refine Reg.take rfl rfl ?_
      refine s_fa rfl Tryd.underlying61 rfl Tryd.sizeOf3 rfl ?_
      refine Reg.nilS (L0 := [(4, _), (16, _), (25, _), (26, _), (28, _)]) (Sub.cons rfl (Sub.cons rfl (Sub.cons rfl (Sub.cons rfl (Sub.cons rfl (Sub.nil _)))))) (hQ_ 5 _ _ _ rfl (.inr hI101.kp) rfl (fun w_ e_ => ?_))
      exact ex_.trans e_
     ·skip
      refine ⟨_, rfl, fun Q_ hQ_ => ?_⟩
      have hI102 := hI37.join hI101
      refine y_st 0 hI102 rfl rfl rfl rfl Tryd.sizeOf61 rfl rfl (one1 rfl (one1 rfl (one1 rfl (one1 rfl (one1 rfl (one1 rfl (one1 rfl (one1 rfl one0)))))))) ?_
      intro w103 hI104 x105
      refine Reg.nilS (L0 := [(3, _), (4, _), (25, _), (26, _)]) (Sub.cons rfl (Sub.cons rfl (Sub.cons rfl (Sub.cons rfl (Sub.nil _))))) (hQ_ 6 _ _ _ rfl (.inl rfl) rfl (fun w_ e_ => ?_))
      exact ⟨hI104.ext e_, ((Adv.of_ext ex_).trans x105).trans (Adv.of_ext e_)⟩
    ·skip
     intro w106 ex_
     have hI107 := (Hp.start (Mu := []) hI37.mlt).ext ex_
     refine .inr ⟨List.cons_ne_nil _ _, [10, 13, 16], by kernel_rfl, AllL.cons ?_ (AllL.cons ?_ (AllL.cons ?_ (AllL.nil)))⟩
     ·skip
      refine ⟨_, rfl, fun Q_ hQ_ => ?_⟩
      refine Reg.take rfl rfl ?_
      refine s_fa rfl Tryd.underlying61 rfl Tryd.sizeOf3 rfl ?_
      refine Reg.nilS (L0 := [(4, _), (16, _), (25, _), (26, _), (28, _)]) (Sub.cons rfl (Sub.cons rfl (Sub.cons rfl (Sub.cons rfl (Sub.cons rfl (Sub.nil _)))))) (hQ_ 5 _ _ _ rfl (.inr hI107.kp) rfl (fun w_ e_ => ?_))
      exact ex_.trans e_
     ·skip
      refine ⟨_, rfl, fun Q_ hQ_ => ?_⟩
      refine Reg.take rfl rfl ?_
      refine s_ld rfl ((hC12.adv (x16.trans (x33.trans (x36.trans ((Hp.eraseA (σ := [rowR 61 b30 [Value.int .i64 y17.id, Value.int .i64 y17.source, Value.int .i64 y17.account, Value.int .i64 y17.made, Value.int .i64 y17.about, Value.int IntKind.u8 (y17.kind), Value.int .i64 y17.cents, Value.int .i64 y17.of_], rowR 61 b13 [Value.int .i64 0, Value.int .i64 0, Value.int .i64 0, Value.int .i64 0, Value.int .i64 0, Value.int IntKind.u8 (0), Value.int .i64 0, Value.int .i64 0]]) 0).trans (Adv.of_ext ex_)))))).cells.at 2 rfl) Tryd.isAgg3 rfl ?_
      refine Reg.nilS (L0 := [(4, _), (6, _), (16, _), (25, _), (29, _)]) (Sub.cons rfl (Sub.cons rfl (Sub.cons rfl (Sub.cons rfl (Sub.cons rfl (Sub.nil _)))))) (hQ_ 7 _ _ _ rfl (.inr hI107.kp) rfl (fun w_ e_ => ?_))
      exact ex_.trans e_
     ·skip
      refine ⟨_, rfl, fun Q_ hQ_ => ?_⟩
      have hI108 := hI37.join hI107
      refine y_st 0 hI108 rfl rfl rfl rfl Tryd.sizeOf61 rfl rfl (one1 rfl (one1 rfl (one1 rfl (one1 rfl (one1 rfl (one1 rfl (one1 rfl (one1 rfl one0)))))))) ?_
      intro w109 hI110 x111
      refine Reg.nilS (L0 := [(4, _), (6, _), (25, _), (28, _)]) (Sub.cons rfl (Sub.cons rfl (Sub.cons rfl (Sub.cons rfl (Sub.nil _))))) (hQ_ 8 _ _ _ rfl (.inl rfl) rfl (fun w_ e_ => ?_))
      exact ⟨hI110.ext e_, ((Adv.of_ext ex_).trans x111).trans (Adv.of_ext e_)⟩
    ·skip
     rintro w112 ⟨hI113, hA_⟩
     refine .inr ⟨List.cons_ne_nil _ _, [10, 12], by kernel_rfl, AllL.cons ?_ (AllL.cons ?_ (AllL.nil))⟩
     ·skip
      refine ⟨_, rfl, fun Q_ hQ_ => ?_⟩
      refine Reg.take rfl rfl ?_
      refine s_fa rfl Tryd.underlying61 rfl Tryd.sizeOf3 rfl ?_
      refine Reg.nilS (L0 := [(3, _), (4, _), (25, _), (26, _)]) (Sub.cons rfl (Sub.cons rfl (Sub.cons rfl (Sub.cons rfl (Sub.nil _))))) (hQ_ 6 _ _ _ rfl (.inl rfl) rfl (fun w_ e_ => ?_))
      exact ⟨hI113.ext e_, hA_.trans (Adv.of_ext e_)⟩
     ·skip
      refine ⟨_, rfl, fun Q_ hQ_ => ?_⟩
      refine Reg.take rfl rfl ?_
      refine s_fa rfl Tryd.underlying61 rfl Tryd.sizeOf3 rfl ?_
      refine Reg.nilS (L0 := [(4, _), (6, _), (25, _), (28, _)]) (Sub.cons rfl (Sub.cons rfl (Sub.cons rfl (Sub.cons rfl (Sub.nil _))))) (hQ_ 8 _ _ _ rfl (.inl rfl) rfl (fun w_ e_ => ?_))
      exact ⟨hI113.ext e_, hA_.trans (Adv.of_ext e_)⟩
    ·skip
     intro w114 ex_
     have hI115 := (Hp.start (Mu := []) hI37.mlt).ext ex_
     refine .inr ⟨List.cons_ne_nil _ _, [12, 16], by kernel_rfl, AllL.cons ?_ (AllL.cons ?_ (AllL.nil))⟩
     ·skip
      refine ⟨_, rfl, fun Q_ hQ_ => ?_⟩
      refine Reg.take rfl rfl ?_
      refine s_fa rfl Tryd.underlying61 rfl Tryd.sizeOf3 rfl ?_
      refine Reg.nilS (L0 := [(4, _), (16, _), (25, _), (27, _), (28, _)]) (Sub.cons rfl (Sub.cons rfl (Sub.cons rfl (Sub.cons rfl (Sub.cons rfl (Sub.nil _)))))) (hQ_ 9 _ _ _ rfl (.inr hI115.kp) rfl (fun w_ e_ => ?_))
      exact ex_.trans e_
     ·skip
      refine ⟨_, rfl, fun Q_ hQ_ => ?_⟩
      have hI116 := hI37.join hI115
      refine y_st 0 hI116 rfl rfl rfl rfl Tryd.sizeOf61 rfl rfl (one1 rfl (one1 rfl (one1 rfl (one1 rfl (one1 rfl (one1 rfl (one1 rfl (one1 rfl one0)))))))) ?_
      intro w117 hI118 x119
      refine Reg.nilS (L0 := [(3, _), (4, _), (25, _), (27, _)]) (Sub.cons rfl (Sub.cons rfl (Sub.cons rfl (Sub.cons rfl (Sub.nil _))))) (hQ_ 10 _ _ _ rfl (.inl rfl) rfl (fun w_ e_ => ?_))
      exact ⟨hI118.ext e_, ((Adv.of_ext ex_).trans x119).trans (Adv.of_ext e_)⟩
    ·skip
     intro w120 ex_
     have hI121 := (Hp.start (Mu := []) hI37.mlt).ext ex_
     refine .inr ⟨List.cons_ne_nil _ _, [11, 13, 16], by kernel_rfl, AllL.cons ?_ (AllL.cons ?_ (AllL.cons ?_ (AllL.nil)))⟩
     ·skip
      refine ⟨_, rfl, fun Q_ hQ_ => ?_⟩
      refine Reg.take rfl rfl ?_
      refine s_ld rfl ((hC38.adv (Adv.of_ext ex_)).cells.at 2 rfl) Tryd.isAgg3 rfl ?_
      refine Reg.nilS (L0 := [(4, _), (16, _), (25, _), (27, _), (28, _)]) (Sub.cons rfl (Sub.cons rfl (Sub.cons rfl (Sub.cons rfl (Sub.cons rfl (Sub.nil _)))))) (hQ_ 9 _ _ _ rfl (.inr hI121.kp) rfl (fun w_ e_ => ?_))
      exact ex_.trans e_
     ·skip
      refine ⟨_, rfl, fun Q_ hQ_ => ?_⟩
      refine Reg.take rfl rfl ?_
      refine s_ld rfl ((hC12.adv (x16.trans (x33.trans (x36.trans ((Hp.eraseA (σ := [rowR 61 b30 [Value.int .i64 y17.id, Value.int .i64 y17.source, Value.int .i64 y17.account, Value.int .i64 y17.made, Value.int .i64 y17.about, Value.int IntKind.u8 (y17.kind), Value.int .i64 y17.cents, Value.int .i64 y17.of_], rowR 61 b13 [Value.int .i64 0, Value.int .i64 0, Value.int .i64 0, Value.int .i64 0, Value.int .i64 0, Value.int IntKind.u8 (0), Value.int .i64 0, Value.int .i64 0]]) 0).trans (Adv.of_ext ex_)))))).cells.at 2 rfl) Tryd.isAgg3 rfl ?_
      refine Reg.nilS (L0 := [(4, _), (16, _), (25, _), (26, _), (29, _)]) (Sub.cons rfl (Sub.cons rfl (Sub.cons rfl (Sub.cons rfl (Sub.cons rfl (Sub.nil _)))))) (hQ_ 11 _ _ _ rfl (.inr hI121.kp) rfl (fun w_ e_ => ?_))
      exact ex_.trans e_
     ·skip
      refine ⟨_, rfl, fun Q_ hQ_ => ?_⟩
      have hI122 := hI37.join hI121
      refine y_st 0 hI122 rfl rfl rfl rfl Tryd.sizeOf61 rfl rfl (one1 rfl (one1 rfl (one1 rfl (one1 rfl (one1 rfl (one1 rfl (one1 rfl (one1 rfl one0)))))))) ?_
      intro w123 hI124 x125
      refine Reg.nilS (L0 := [(4, _), (25, _), (26, _), (28, _)]) (Sub.cons rfl (Sub.cons rfl (Sub.cons rfl (Sub.cons rfl (Sub.nil _))))) (hQ_ 12 _ _ _ rfl (.inl rfl) rfl (fun w_ e_ => ?_))
      exact ⟨hI124.ext e_, ((Adv.of_ext ex_).trans x125).trans (Adv.of_ext e_)⟩
    ·skip
     rintro w126 ⟨hI127, hA_⟩
     refine .inr ⟨List.cons_ne_nil _ _, [11, 12], by kernel_rfl, AllL.cons ?_ (AllL.cons ?_ (AllL.nil))⟩
     ·skip
      refine ⟨_, rfl, fun Q_ hQ_ => ?_⟩
      refine Reg.take rfl rfl ?_
      refine s_ld rfl ((hC38.adv hA_).cells.at 2 rfl) Tryd.isAgg3 rfl ?_
      refine Reg.nilS (L0 := [(3, _), (4, _), (25, _), (27, _)]) (Sub.cons rfl (Sub.cons rfl (Sub.cons rfl (Sub.cons rfl (Sub.nil _))))) (hQ_ 10 _ _ _ rfl (.inl rfl) rfl (fun w_ e_ => ?_))
      exact ⟨hI127.ext e_, hA_.trans (Adv.of_ext e_)⟩
     ·skip
      refine ⟨_, rfl, fun Q_ hQ_ => ?_⟩
      refine Reg.take rfl rfl ?_
      refine s_fa rfl Tryd.underlying61 rfl Tryd.sizeOf3 rfl ?_
      refine Reg.nilS (L0 := [(4, _), (25, _), (26, _), (28, _)]) (Sub.cons rfl (Sub.cons rfl (Sub.cons rfl (Sub.cons rfl (Sub.nil _))))) (hQ_ 12 _ _ _ rfl (.inl rfl) rfl (fun w_ e_ => ?_))
      exact ⟨hI127.ext e_, hA_.trans (Adv.of_ext e_)⟩
    ·skip
     intro w128 ex_
     have hI129 := (Hp.start (Mu := []) hI37.mlt).ext ex_
     refine .inr ⟨List.cons_ne_nil _ _, [10, 16], by kernel_rfl, AllL.cons ?_ (AllL.cons ?_ (AllL.nil))⟩
     ·skip
      refine ⟨_, rfl, fun Q_ hQ_ => ?_⟩
      refine Reg.take rfl rfl ?_
      refine s_fa rfl Tryd.underlying61 rfl Tryd.sizeOf3 rfl ?_
      refine Reg.nilS (L0 := [(4, _), (16, _), (25, _), (26, _), (29, _)]) (Sub.cons rfl (Sub.cons rfl (Sub.cons rfl (Sub.cons rfl (Sub.cons rfl (Sub.nil _)))))) (hQ_ 11 _ _ _ rfl (.inr hI129.kp) rfl (fun w_ e_ => ?_))
      exact ex_.trans e_
     ·skip
      refine ⟨_, rfl, fun Q_ hQ_ => ?_⟩
      have hI130 := hI37.join hI129
      refine y_st 0 hI130 rfl rfl rfl rfl Tryd.sizeOf61 rfl rfl (one1 rfl (one1 rfl (one1 rfl (one1 rfl (one1 rfl (one1 rfl (one1 rfl (one1 rfl one0)))))))) ?_
      intro w131 hI132 x133
      refine Reg.nilS (L0 := [(4, _), (6, _), (25, _), (29, _)]) (Sub.cons rfl (Sub.cons rfl (Sub.cons rfl (Sub.cons rfl (Sub.nil _))))) (hQ_ 13 _ _ _ rfl (.inl rfl) rfl (fun w_ e_ => ?_))
      exact ⟨hI132.ext e_, ((Adv.of_ext ex_).trans x133).trans (Adv.of_ext e_)⟩
    ·skip
     rintro w134 ⟨hI135, hA_⟩
     refine .inr ⟨List.cons_ne_nil _ _, [10, 13], by kernel_rfl, AllL.cons ?_ (AllL.cons ?_ (AllL.nil))⟩
     ·skip
      refine ⟨_, rfl, fun Q_ hQ_ => ?_⟩
      refine Reg.take rfl rfl ?_
      refine s_fa rfl Tryd.underlying61 rfl Tryd.sizeOf3 rfl ?_
      refine Reg.nilS (L0 := [(4, _), (25, _), (26, _), (28, _)]) (Sub.cons rfl (Sub.cons rfl (Sub.cons rfl (Sub.cons rfl (Sub.nil _))))) (hQ_ 12 _ _ _ rfl (.inl rfl) rfl (fun w_ e_ => ?_))
      exact ⟨hI135.ext e_, hA_.trans (Adv.of_ext e_)⟩
     ·skip
      refine ⟨_, rfl, fun Q_ hQ_ => ?_⟩
      refine Reg.take rfl rfl ?_
      refine s_ld rfl ((hC12.adv (x16.trans (x33.trans (x36.trans ((Hp.eraseA (σ := [rowR 61 b30 [Value.int .i64 y17.id, Value.int .i64 y17.source, Value.int .i64 y17.account, Value.int .i64 y17.made, Value.int .i64 y17.about, Value.int IntKind.u8 (y17.kind), Value.int .i64 y17.cents, Value.int .i64 y17.of_], rowR 61 b13 [Value.int .i64 0, Value.int .i64 0, Value.int .i64 0, Value.int .i64 0, Value.int .i64 0, Value.int IntKind.u8 (0), Value.int .i64 0, Value.int .i64 0]]) 0).trans hA_))))).cells.at 2 rfl) Tryd.isAgg3 rfl ?_
      refine Reg.nilS (L0 := [(4, _), (6, _), (25, _), (29, _)]) (Sub.cons rfl (Sub.cons rfl (Sub.cons rfl (Sub.cons rfl (Sub.nil _))))) (hQ_ 13 _ _ _ rfl (.inl rfl) rfl (fun w_ e_ => ?_))
      exact ⟨hI135.ext e_, hA_.trans (Adv.of_ext e_)⟩
    ·skip
     intro w136 ex_
     have hI137 := (Hp.start (Mu := []) hI37.mlt).ext ex_
     refine .inr ⟨List.cons_ne_nil _ _, [13, 16], by kernel_rfl, AllL.cons ?_ (AllL.cons ?_ (AllL.nil))⟩
     ·skip
      refine ⟨_, rfl, fun Q_ hQ_ => ?_⟩
      refine Reg.take rfl rfl ?_
      refine s_ld rfl ((hC12.adv (x16.trans (x33.trans (x36.trans ((Hp.eraseA (σ := [rowR 61 b30 [Value.int .i64 y17.id, Value.int .i64 y17.source, Value.int .i64 y17.account, Value.int .i64 y17.made, Value.int .i64 y17.about, Value.int IntKind.u8 (y17.kind), Value.int .i64 y17.cents, Value.int .i64 y17.of_], rowR 61 b13 [Value.int .i64 0, Value.int .i64 0, Value.int .i64 0, Value.int .i64 0, Value.int .i64 0, Value.int IntKind.u8 (0), Value.int .i64 0, Value.int .i64 0]]) 0).trans (Adv.of_ext ex_)))))).cells.at 2 rfl) Tryd.isAgg3 rfl ?_
      refine Reg.nilS (L0 := [(4, _), (16, _), (25, _), (27, _), (29, _)]) (Sub.cons rfl (Sub.cons rfl (Sub.cons rfl (Sub.cons rfl (Sub.cons rfl (Sub.nil _)))))) (hQ_ 14 _ _ _ rfl (.inr hI137.kp) rfl (fun w_ e_ => ?_))
      exact ex_.trans e_
     ·skip
      refine ⟨_, rfl, fun Q_ hQ_ => ?_⟩
      have hI138 := hI37.join hI137
      refine y_st 0 hI138 rfl rfl rfl rfl Tryd.sizeOf61 rfl rfl (one1 rfl (one1 rfl (one1 rfl (one1 rfl (one1 rfl (one1 rfl (one1 rfl (one1 rfl one0)))))))) ?_
      intro w139 hI140 x141
      refine Reg.nilS (L0 := [(4, _), (25, _), (27, _), (28, _)]) (Sub.cons rfl (Sub.cons rfl (Sub.cons rfl (Sub.cons rfl (Sub.nil _))))) (hQ_ 15 _ _ _ rfl (.inl rfl) rfl (fun w_ e_ => ?_))
      exact ⟨hI140.ext e_, ((Adv.of_ext ex_).trans x141).trans (Adv.of_ext e_)⟩
    ·skip
     rintro w142 ⟨hI143, hA_⟩
     refine .inr ⟨List.cons_ne_nil _ _, [12], by kernel_rfl, AllL.cons ?_ (AllL.nil)⟩
     ·skip
      refine ⟨_, rfl, fun Q_ hQ_ => ?_⟩
      refine Reg.take rfl rfl ?_
      refine s_fa rfl Tryd.underlying61 rfl Tryd.sizeOf3 rfl ?_
      refine Reg.nilS (L0 := [(4, _), (25, _), (27, _), (28, _)]) (Sub.cons rfl (Sub.cons rfl (Sub.cons rfl (Sub.cons rfl (Sub.nil _))))) (hQ_ 15 _ _ _ rfl (.inl rfl) rfl (fun w_ e_ => ?_))
      exact ⟨hI143.ext e_, hA_.trans (Adv.of_ext e_)⟩
    ·skip
     intro w144 ex_
     have hI145 := (Hp.start (Mu := []) hI37.mlt).ext ex_
     refine .inr ⟨List.cons_ne_nil _ _, [11, 16], by kernel_rfl, AllL.cons ?_ (AllL.cons ?_ (AllL.nil))⟩
     ·skip
      refine ⟨_, rfl, fun Q_ hQ_ => ?_⟩
      refine Reg.take rfl rfl ?_
      refine s_ld rfl ((hC38.adv (Adv.of_ext ex_)).cells.at 2 rfl) Tryd.isAgg3 rfl ?_
      refine Reg.nilS (L0 := [(4, _), (16, _), (25, _), (27, _), (29, _)]) (Sub.cons rfl (Sub.cons rfl (Sub.cons rfl (Sub.cons rfl (Sub.cons rfl (Sub.nil _)))))) (hQ_ 14 _ _ _ rfl (.inr hI145.kp) rfl (fun w_ e_ => ?_))
      exact ex_.trans e_
     ·skip
      refine ⟨_, rfl, fun Q_ hQ_ => ?_⟩
      have hI146 := hI37.join hI145
      refine y_st 0 hI146 rfl rfl rfl rfl Tryd.sizeOf61 rfl rfl (one1 rfl (one1 rfl (one1 rfl (one1 rfl (one1 rfl (one1 rfl (one1 rfl (one1 rfl one0)))))))) ?_
      intro w147 hI148 x149
      refine Reg.nilS (L0 := [(4, _), (25, _), (26, _), (29, _)]) (Sub.cons rfl (Sub.cons rfl (Sub.cons rfl (Sub.cons rfl (Sub.nil _))))) (hQ_ 16 _ _ _ rfl (.inl rfl) rfl (fun w_ e_ => ?_))
      exact ⟨hI148.ext e_, ((Adv.of_ext ex_).trans x149).trans (Adv.of_ext e_)⟩
    ·skip
     rintro w150 ⟨hI151, hA_⟩
     refine .inr ⟨List.cons_ne_nil _ _, [11, 13], by kernel_rfl, AllL.cons ?_ (AllL.cons ?_ (AllL.nil))⟩
     ·skip
      refine ⟨_, rfl, fun Q_ hQ_ => ?_⟩
      refine Reg.take rfl rfl ?_
      refine s_ld rfl ((hC38.adv hA_).cells.at 2 rfl) Tryd.isAgg3 rfl ?_
      refine Reg.nilS (L0 := [(4, _), (25, _), (27, _), (28, _)]) (Sub.cons rfl (Sub.cons rfl (Sub.cons rfl (Sub.cons rfl (Sub.nil _))))) (hQ_ 15 _ _ _ rfl (.inl rfl) rfl (fun w_ e_ => ?_))
      exact ⟨hI151.ext e_, hA_.trans (Adv.of_ext e_)⟩
     ·skip
      refine ⟨_, rfl, fun Q_ hQ_ => ?_⟩
      refine Reg.take rfl rfl ?_
      refine s_ld rfl ((hC12.adv (x16.trans (x33.trans (x36.trans ((Hp.eraseA (σ := [rowR 61 b30 [Value.int .i64 y17.id, Value.int .i64 y17.source, Value.int .i64 y17.account, Value.int .i64 y17.made, Value.int .i64 y17.about, Value.int IntKind.u8 (y17.kind), Value.int .i64 y17.cents, Value.int .i64 y17.of_], rowR 61 b13 [Value.int .i64 0, Value.int .i64 0, Value.int .i64 0, Value.int .i64 0, Value.int .i64 0, Value.int IntKind.u8 (0), Value.int .i64 0, Value.int .i64 0]]) 0).trans hA_))))).cells.at 2 rfl) Tryd.isAgg3 rfl ?_
      refine Reg.nilS (L0 := [(4, _), (25, _), (26, _), (29, _)]) (Sub.cons rfl (Sub.cons rfl (Sub.cons rfl (Sub.cons rfl (Sub.nil _))))) (hQ_ 16 _ _ _ rfl (.inl rfl) rfl (fun w_ e_ => ?_))
      exact ⟨hI151.ext e_, hA_.trans (Adv.of_ext e_)⟩
    ·skip
     rintro w152 ⟨hI153, hA_⟩
     refine .inr ⟨List.cons_ne_nil _ _, [10], by kernel_rfl, AllL.cons ?_ (AllL.nil)⟩
     ·skip
      refine ⟨_, rfl, fun Q_ hQ_ => ?_⟩
      refine Reg.take rfl rfl ?_
      refine s_fa rfl Tryd.underlying61 rfl Tryd.sizeOf3 rfl ?_
      refine Reg.nilS (L0 := [(4, _), (25, _), (26, _), (29, _)]) (Sub.cons rfl (Sub.cons rfl (Sub.cons rfl (Sub.cons rfl (Sub.nil _))))) (hQ_ 16 _ _ _ rfl (.inl rfl) rfl (fun w_ e_ => ?_))
      exact ⟨hI153.ext e_, hA_.trans (Adv.of_ext e_)⟩
    ·skip
     intro w154 ex_
     have hI155 := (Hp.start (Mu := []) hI37.mlt).ext ex_
     refine .inr ⟨List.cons_ne_nil _ _, [14, 16], by kernel_rfl, AllL.cons ?_ (AllL.cons ?_ (AllL.nil))⟩
     ·skip
      refine ⟨_, rfl, fun Q_ hQ_ => ?_⟩
      refine Reg.take rfl rfl ?_
      refine s_eql rfl rfl rfl ?_
      refine Reg.nilS (L0 := [(4, _), (16, _), (25, _), (30, _)]) (Sub.cons rfl (Sub.cons rfl (Sub.cons rfl (Sub.cons rfl (Sub.nil _))))) (hQ_ 17 _ _ _ rfl (.inr hI155.kp) rfl (fun w_ e_ => ?_))
      exact ex_.trans e_
     ·skip
      refine ⟨_, rfl, fun Q_ hQ_ => ?_⟩
      have hI156 := hI37.join hI155
      refine y_st 0 hI156 rfl rfl rfl rfl Tryd.sizeOf61 rfl rfl (one1 rfl (one1 rfl (one1 rfl (one1 rfl (one1 rfl (one1 rfl (one1 rfl (one1 rfl one0)))))))) ?_
      intro w157 hI158 x159
      refine Reg.nilS (L0 := [(4, _), (25, _), (27, _), (29, _)]) (Sub.cons rfl (Sub.cons rfl (Sub.cons rfl (Sub.cons rfl (Sub.nil _))))) (hQ_ 18 _ _ _ rfl (.inl rfl) rfl (fun w_ e_ => ?_))
      exact ⟨hI158.ext e_, ((Adv.of_ext ex_).trans x159).trans (Adv.of_ext e_)⟩
    ·skip
     rintro w160 ⟨hI161, hA_⟩
     refine .inr ⟨List.cons_ne_nil _ _, [13], by kernel_rfl, AllL.cons ?_ (AllL.nil)⟩
     ·skip
      refine ⟨_, rfl, fun Q_ hQ_ => ?_⟩
      refine Reg.take rfl rfl ?_
      refine s_ld rfl ((hC12.adv (x16.trans (x33.trans (x36.trans ((Hp.eraseA (σ := [rowR 61 b30 [Value.int .i64 y17.id, Value.int .i64 y17.source, Value.int .i64 y17.account, Value.int .i64 y17.made, Value.int .i64 y17.about, Value.int IntKind.u8 (y17.kind), Value.int .i64 y17.cents, Value.int .i64 y17.of_], rowR 61 b13 [Value.int .i64 0, Value.int .i64 0, Value.int .i64 0, Value.int .i64 0, Value.int .i64 0, Value.int IntKind.u8 (0), Value.int .i64 0, Value.int .i64 0]]) 0).trans hA_))))).cells.at 2 rfl) Tryd.isAgg3 rfl ?_
      refine Reg.nilS (L0 := [(4, _), (25, _), (27, _), (29, _)]) (Sub.cons rfl (Sub.cons rfl (Sub.cons rfl (Sub.cons rfl (Sub.nil _))))) (hQ_ 18 _ _ _ rfl (.inl rfl) rfl (fun w_ e_ => ?_))
      exact ⟨hI161.ext e_, hA_.trans (Adv.of_ext e_)⟩
    ·skip
     rintro w162 ⟨hI163, hA_⟩
     refine .inr ⟨List.cons_ne_nil _ _, [11], by kernel_rfl, AllL.cons ?_ (AllL.nil)⟩
     ·skip
      refine ⟨_, rfl, fun Q_ hQ_ => ?_⟩
      refine Reg.take rfl rfl ?_
      refine s_ld rfl ((hC38.adv hA_).cells.at 2 rfl) Tryd.isAgg3 rfl ?_
      refine Reg.nilS (L0 := [(4, _), (25, _), (27, _), (29, _)]) (Sub.cons rfl (Sub.cons rfl (Sub.cons rfl (Sub.cons rfl (Sub.nil _))))) (hQ_ 18 _ _ _ rfl (.inl rfl) rfl (fun w_ e_ => ?_))
      exact ⟨hI163.ext e_, hA_.trans (Adv.of_ext e_)⟩
    ·skip
     intro w164 ex_
     have hI165 := (Hp.start (Mu := []) hI37.mlt).ext ex_
     refine .inr ⟨List.cons_ne_nil _ _, [15, 16], by kernel_rfl, AllL.cons ?_ (AllL.cons ?_ (AllL.nil))⟩
     ·skip
      refine ⟨_, rfl, fun Q_ hQ_ => ?_⟩
      refine s_pkT rfl rfl rfl ?_
      refine Reg.nilS (L0 := [(4, _), (16, _), (31, _)]) (Sub.cons rfl (Sub.cons rfl (Sub.cons rfl (Sub.nil _)))) (hQ_ 19 _ _ _ rfl (.inr hI165.kp) rfl (fun w_ e_ => ?_))
      exact ex_.trans e_
     ·skip
      refine ⟨_, rfl, fun Q_ hQ_ => ?_⟩
      have hI166 := hI37.join hI165
      refine y_st 0 hI166 rfl rfl rfl rfl Tryd.sizeOf61 rfl rfl (one1 rfl (one1 rfl (one1 rfl (one1 rfl (one1 rfl (one1 rfl (one1 rfl (one1 rfl one0)))))))) ?_
      intro w167 hI168 x169
      refine Reg.nilS (L0 := [(4, _), (25, _), (30, _)]) (Sub.cons rfl (Sub.cons rfl (Sub.cons rfl (Sub.nil _)))) (hQ_ 20 _ _ _ rfl (.inl rfl) rfl (fun w_ e_ => ?_))
      exact ⟨hI168.ext e_, ((Adv.of_ext ex_).trans x169).trans (Adv.of_ext e_)⟩
    ·skip
     rintro w170 ⟨hI171, hA_⟩
     refine .inr ⟨List.cons_ne_nil _ _, [14], by kernel_rfl, AllL.cons ?_ (AllL.nil)⟩
     ·skip
      refine ⟨_, rfl, fun Q_ hQ_ => ?_⟩
      refine Reg.take rfl rfl ?_
      refine s_eql rfl rfl rfl ?_
      refine Reg.nilS (L0 := [(4, _), (25, _), (30, _)]) (Sub.cons rfl (Sub.cons rfl (Sub.cons rfl (Sub.nil _)))) (hQ_ 20 _ _ _ rfl (.inl rfl) rfl (fun w_ e_ => ?_))
      exact ⟨hI171.ext e_, hA_.trans (Adv.of_ext e_)⟩
    ·skip
     intro w172 ex_
     have hI173 := (Hp.start (Mu := []) hI37.mlt).ext ex_
     refine .inr ⟨List.cons_ne_nil _ _, [16], by kernel_rfl, AllL.cons ?_ (AllL.nil)⟩
     ·skip
      refine ⟨_, rfl, fun Q_ hQ_ => ?_⟩
      have hI174 := hI37.join hI173
      refine y_st 0 hI174 rfl rfl rfl rfl Tryd.sizeOf61 rfl rfl (one1 rfl (one1 rfl (one1 rfl (one1 rfl (one1 rfl (one1 rfl (one1 rfl (one1 rfl one0)))))))) ?_
      intro w175 hI176 x177
      refine Reg.nilS (L0 := [(4, _), (31, _)]) (Sub.cons rfl (Sub.cons rfl (Sub.nil _))) (hQ_ 21 _ _ _ rfl (.inl rfl) rfl (fun w_ e_ => ?_))
      exact ⟨hI176.ext e_, ((Adv.of_ext ex_).trans x177).trans (Adv.of_ext e_)⟩
    ·skip
     rintro w178 ⟨hI179, hA_⟩
     refine .inr ⟨List.cons_ne_nil _ _, [15], by kernel_rfl, AllL.cons ?_ (AllL.nil)⟩
     ·skip
      refine ⟨_, rfl, fun Q_ hQ_ => ?_⟩
      refine s_pkT rfl rfl rfl ?_
      refine Reg.nilS (L0 := [(4, _), (31, _)]) (Sub.cons rfl (Sub.cons rfl (Sub.nil _))) (hQ_ 21 _ _ _ rfl (.inl rfl) rfl (fun w_ e_ => ?_))
      exact ⟨hI179.ext e_, hA_.trans (Adv.of_ext e_)⟩
    ·skip
     rintro w180 ⟨hI181, hA_⟩
     refine .inr ⟨List.cons_ne_nil _ _, [17], by kernel_rfl, AllL.cons ?_ (AllL.nil)⟩
     ·skip
      refine ⟨_, rfl, fun Q_ hQ_ => ?_⟩
      refine s_as rfl rfl ?_
      refine Reg.nilS (L0 := [(4, _), (5, _)]) (Sub.cons rfl (Sub.cons rfl (Sub.nil _))) (hQ_ 22 _ _ _ rfl (.inl rfl) rfl (fun w_ e_ => ?_))
      exact ⟨hI181.ext e_, hA_.trans (Adv.of_ext e_)⟩
    ·skip
     rintro w182 ⟨hI183, hA_⟩
     refine .inl ⟨rfl, ?_⟩
     obtain rfl := Option.some.inj h40
     refine ⟨rfl, (decide (y17.account = r.account), y17.id, y17.source, y17.account, y17.made, y17.about, y17.kind, y17.cents, y17.of_), ⟨hI183, hA_, r22, r23, r24, r25, r26, r27, r28, r29, rfl⟩, Sub.cons rfl (Sub.cons rfl (Sub.nil _))⟩
   ·replace h40 := cdF hg65 h40
    rw [show Value.bool (decide (y17.source = r.source)) = Value.bool false from congrArg Value.bool hg65]
    refine SeaWalk.dag [([10, 11, 12, 13, 14, 15, 16, 17], _, fun w_ => Ext w34 w_), ([11, 12, 13, 14, 15, 16, 17], [(3, Value.pointer (some ⟨b7, 0, none⟩)), (4, Value.pointer (some ⟨b13, 0, none⟩)), (16, Value.agg (List.toArray [Value.int .i64 y17.id, Value.int .i64 y17.source, Value.int .i64 y17.account, Value.int .i64 y17.made, Value.int .i64 y17.about, Value.int IntKind.u8 (y17.kind), Value.int .i64 y17.cents, Value.int .i64 y17.of_])), (25, Value.bool false)], fun w_ => Ext w34 w_), ([10, 11, 13, 14, 15, 16, 17], [(4, Value.pointer (some ⟨b13, 0, none⟩)), (6, Value.pointer (some ⟨b30, 0, none⟩)), (16, Value.agg (List.toArray [Value.int .i64 y17.id, Value.int .i64 y17.source, Value.int .i64 y17.account, Value.int .i64 y17.made, Value.int .i64 y17.about, Value.int IntKind.u8 (y17.kind), Value.int .i64 y17.cents, Value.int .i64 y17.of_])), (25, Value.bool false)], fun w_ => Ext w34 w_), ([10, 11, 12, 13, 14, 15, 17], [(3, Value.pointer (some ⟨b7, 0, none⟩)), (4, Value.pointer (some ⟨b13, 0, none⟩)), (6, Value.pointer (some ⟨b30, 0, none⟩)), (25, Value.bool false)], fun w_ => Hp w [] M [rowR 61 b13 [Value.int .i64 y17.id, Value.int .i64 y17.source, Value.int .i64 y17.account, Value.int .i64 y17.made, Value.int .i64 y17.about, Value.int IntKind.u8 (y17.kind), Value.int .i64 y17.cents, Value.int .i64 y17.of_]] w_ ∧ Adv (mm [rowR 61 b13 [Value.int .i64 0, Value.int .i64 0, Value.int .i64 0, Value.int .i64 0, Value.int .i64 0, Value.int IntKind.u8 (0), Value.int .i64 0, Value.int .i64 0]] M) (mm [rowR 61 b13 [Value.int .i64 y17.id, Value.int .i64 y17.source, Value.int .i64 y17.account, Value.int .i64 y17.made, Value.int .i64 y17.about, Value.int IntKind.u8 (y17.kind), Value.int .i64 y17.cents, Value.int .i64 y17.of_]] M) w34 w_), ([12, 13, 14, 15, 16, 17], [(3, Value.pointer (some ⟨b7, 0, none⟩)), (4, Value.pointer (some ⟨b13, 0, none⟩)), (16, Value.agg (List.toArray [Value.int .i64 y17.id, Value.int .i64 y17.source, Value.int .i64 y17.account, Value.int .i64 y17.made, Value.int .i64 y17.about, Value.int IntKind.u8 (y17.kind), Value.int .i64 y17.cents, Value.int .i64 y17.of_])), (25, Value.bool false)], fun w_ => Ext w34 w_), ([11, 13, 14, 15, 16, 17], [(4, Value.pointer (some ⟨b13, 0, none⟩)), (16, Value.agg (List.toArray [Value.int .i64 y17.id, Value.int .i64 y17.source, Value.int .i64 y17.account, Value.int .i64 y17.made, Value.int .i64 y17.about, Value.int IntKind.u8 (y17.kind), Value.int .i64 y17.cents, Value.int .i64 y17.of_])), (25, Value.bool false)], fun w_ => Ext w34 w_), ([11, 12, 13, 14, 15, 17], [(3, Value.pointer (some ⟨b7, 0, none⟩)), (4, Value.pointer (some ⟨b13, 0, none⟩)), (25, Value.bool false)], fun w_ => Hp w [] M [rowR 61 b13 [Value.int .i64 y17.id, Value.int .i64 y17.source, Value.int .i64 y17.account, Value.int .i64 y17.made, Value.int .i64 y17.about, Value.int IntKind.u8 (y17.kind), Value.int .i64 y17.cents, Value.int .i64 y17.of_]] w_ ∧ Adv (mm [rowR 61 b13 [Value.int .i64 0, Value.int .i64 0, Value.int .i64 0, Value.int .i64 0, Value.int .i64 0, Value.int IntKind.u8 (0), Value.int .i64 0, Value.int .i64 0]] M) (mm [rowR 61 b13 [Value.int .i64 y17.id, Value.int .i64 y17.source, Value.int .i64 y17.account, Value.int .i64 y17.made, Value.int .i64 y17.about, Value.int IntKind.u8 (y17.kind), Value.int .i64 y17.cents, Value.int .i64 y17.of_]] M) w34 w_), ([10, 11, 14, 15, 16, 17], [(4, Value.pointer (some ⟨b13, 0, none⟩)), (6, Value.pointer (some ⟨b30, 0, none⟩)), (16, Value.agg (List.toArray [Value.int .i64 y17.id, Value.int .i64 y17.source, Value.int .i64 y17.account, Value.int .i64 y17.made, Value.int .i64 y17.about, Value.int IntKind.u8 (y17.kind), Value.int .i64 y17.cents, Value.int .i64 y17.of_])), (25, Value.bool false)], fun w_ => Ext w34 w_), ([10, 11, 13, 14, 15, 17], [(4, Value.pointer (some ⟨b13, 0, none⟩)), (6, Value.pointer (some ⟨b30, 0, none⟩)), (25, Value.bool false)], fun w_ => Hp w [] M [rowR 61 b13 [Value.int .i64 y17.id, Value.int .i64 y17.source, Value.int .i64 y17.account, Value.int .i64 y17.made, Value.int .i64 y17.about, Value.int IntKind.u8 (y17.kind), Value.int .i64 y17.cents, Value.int .i64 y17.of_]] w_ ∧ Adv (mm [rowR 61 b13 [Value.int .i64 0, Value.int .i64 0, Value.int .i64 0, Value.int .i64 0, Value.int .i64 0, Value.int IntKind.u8 (0), Value.int .i64 0, Value.int .i64 0]] M) (mm [rowR 61 b13 [Value.int .i64 y17.id, Value.int .i64 y17.source, Value.int .i64 y17.account, Value.int .i64 y17.made, Value.int .i64 y17.about, Value.int IntKind.u8 (y17.kind), Value.int .i64 y17.cents, Value.int .i64 y17.of_]] M) w34 w_), ([13, 14, 15, 16, 17], [(4, Value.pointer (some ⟨b13, 0, none⟩)), (16, Value.agg (List.toArray [Value.int .i64 y17.id, Value.int .i64 y17.source, Value.int .i64 y17.account, Value.int .i64 y17.made, Value.int .i64 y17.about, Value.int IntKind.u8 (y17.kind), Value.int .i64 y17.cents, Value.int .i64 y17.of_])), (25, Value.bool false)], fun w_ => Ext w34 w_), ([12, 13, 14, 15, 17], [(3, Value.pointer (some ⟨b7, 0, none⟩)), (4, Value.pointer (some ⟨b13, 0, none⟩)), (25, Value.bool false)], fun w_ => Hp w [] M [rowR 61 b13 [Value.int .i64 y17.id, Value.int .i64 y17.source, Value.int .i64 y17.account, Value.int .i64 y17.made, Value.int .i64 y17.about, Value.int IntKind.u8 (y17.kind), Value.int .i64 y17.cents, Value.int .i64 y17.of_]] w_ ∧ Adv (mm [rowR 61 b13 [Value.int .i64 0, Value.int .i64 0, Value.int .i64 0, Value.int .i64 0, Value.int .i64 0, Value.int IntKind.u8 (0), Value.int .i64 0, Value.int .i64 0]] M) (mm [rowR 61 b13 [Value.int .i64 y17.id, Value.int .i64 y17.source, Value.int .i64 y17.account, Value.int .i64 y17.made, Value.int .i64 y17.about, Value.int IntKind.u8 (y17.kind), Value.int .i64 y17.cents, Value.int .i64 y17.of_]] M) w34 w_), ([11, 14, 15, 16, 17], [(4, Value.pointer (some ⟨b13, 0, none⟩)), (16, Value.agg (List.toArray [Value.int .i64 y17.id, Value.int .i64 y17.source, Value.int .i64 y17.account, Value.int .i64 y17.made, Value.int .i64 y17.about, Value.int IntKind.u8 (y17.kind), Value.int .i64 y17.cents, Value.int .i64 y17.of_])), (25, Value.bool false)], fun w_ => Ext w34 w_), ([11, 13, 14, 15, 17], [(4, Value.pointer (some ⟨b13, 0, none⟩)), (25, Value.bool false)], fun w_ => Hp w [] M [rowR 61 b13 [Value.int .i64 y17.id, Value.int .i64 y17.source, Value.int .i64 y17.account, Value.int .i64 y17.made, Value.int .i64 y17.about, Value.int IntKind.u8 (y17.kind), Value.int .i64 y17.cents, Value.int .i64 y17.of_]] w_ ∧ Adv (mm [rowR 61 b13 [Value.int .i64 0, Value.int .i64 0, Value.int .i64 0, Value.int .i64 0, Value.int .i64 0, Value.int IntKind.u8 (0), Value.int .i64 0, Value.int .i64 0]] M) (mm [rowR 61 b13 [Value.int .i64 y17.id, Value.int .i64 y17.source, Value.int .i64 y17.account, Value.int .i64 y17.made, Value.int .i64 y17.about, Value.int IntKind.u8 (y17.kind), Value.int .i64 y17.cents, Value.int .i64 y17.of_]] M) w34 w_), ([10, 11, 14, 15, 17], [(4, Value.pointer (some ⟨b13, 0, none⟩)), (6, Value.pointer (some ⟨b30, 0, none⟩)), (25, Value.bool false)], fun w_ => Hp w [] M [rowR 61 b13 [Value.int .i64 y17.id, Value.int .i64 y17.source, Value.int .i64 y17.account, Value.int .i64 y17.made, Value.int .i64 y17.about, Value.int IntKind.u8 (y17.kind), Value.int .i64 y17.cents, Value.int .i64 y17.of_]] w_ ∧ Adv (mm [rowR 61 b13 [Value.int .i64 0, Value.int .i64 0, Value.int .i64 0, Value.int .i64 0, Value.int .i64 0, Value.int IntKind.u8 (0), Value.int .i64 0, Value.int .i64 0]] M) (mm [rowR 61 b13 [Value.int .i64 y17.id, Value.int .i64 y17.source, Value.int .i64 y17.account, Value.int .i64 y17.made, Value.int .i64 y17.about, Value.int IntKind.u8 (y17.kind), Value.int .i64 y17.cents, Value.int .i64 y17.of_]] M) w34 w_), ([14, 15, 16, 17], [(4, Value.pointer (some ⟨b13, 0, none⟩)), (16, Value.agg (List.toArray [Value.int .i64 y17.id, Value.int .i64 y17.source, Value.int .i64 y17.account, Value.int .i64 y17.made, Value.int .i64 y17.about, Value.int IntKind.u8 (y17.kind), Value.int .i64 y17.cents, Value.int .i64 y17.of_])), (25, Value.bool false)], fun w_ => Ext w34 w_), ([13, 14, 15, 17], [(4, Value.pointer (some ⟨b13, 0, none⟩)), (25, Value.bool false)], fun w_ => Hp w [] M [rowR 61 b13 [Value.int .i64 y17.id, Value.int .i64 y17.source, Value.int .i64 y17.account, Value.int .i64 y17.made, Value.int .i64 y17.about, Value.int IntKind.u8 (y17.kind), Value.int .i64 y17.cents, Value.int .i64 y17.of_]] w_ ∧ Adv (mm [rowR 61 b13 [Value.int .i64 0, Value.int .i64 0, Value.int .i64 0, Value.int .i64 0, Value.int .i64 0, Value.int IntKind.u8 (0), Value.int .i64 0, Value.int .i64 0]] M) (mm [rowR 61 b13 [Value.int .i64 y17.id, Value.int .i64 y17.source, Value.int .i64 y17.account, Value.int .i64 y17.made, Value.int .i64 y17.about, Value.int IntKind.u8 (y17.kind), Value.int .i64 y17.cents, Value.int .i64 y17.of_]] M) w34 w_), ([11, 14, 15, 17], [(4, Value.pointer (some ⟨b13, 0, none⟩)), (25, Value.bool false)], fun w_ => Hp w [] M [rowR 61 b13 [Value.int .i64 y17.id, Value.int .i64 y17.source, Value.int .i64 y17.account, Value.int .i64 y17.made, Value.int .i64 y17.about, Value.int IntKind.u8 (y17.kind), Value.int .i64 y17.cents, Value.int .i64 y17.of_]] w_ ∧ Adv (mm [rowR 61 b13 [Value.int .i64 0, Value.int .i64 0, Value.int .i64 0, Value.int .i64 0, Value.int .i64 0, Value.int IntKind.u8 (0), Value.int .i64 0, Value.int .i64 0]] M) (mm [rowR 61 b13 [Value.int .i64 y17.id, Value.int .i64 y17.source, Value.int .i64 y17.account, Value.int .i64 y17.made, Value.int .i64 y17.about, Value.int IntKind.u8 (y17.kind), Value.int .i64 y17.cents, Value.int .i64 y17.of_]] M) w34 w_), ([15, 16, 17], [(4, Value.pointer (some ⟨b13, 0, none⟩)), (16, Value.agg (List.toArray [Value.int .i64 y17.id, Value.int .i64 y17.source, Value.int .i64 y17.account, Value.int .i64 y17.made, Value.int .i64 y17.about, Value.int IntKind.u8 (y17.kind), Value.int .i64 y17.cents, Value.int .i64 y17.of_])), (25, Value.bool false)], fun w_ => Ext w34 w_), ([14, 15, 17], [(4, Value.pointer (some ⟨b13, 0, none⟩)), (25, Value.bool false)], fun w_ => Hp w [] M [rowR 61 b13 [Value.int .i64 y17.id, Value.int .i64 y17.source, Value.int .i64 y17.account, Value.int .i64 y17.made, Value.int .i64 y17.about, Value.int IntKind.u8 (y17.kind), Value.int .i64 y17.cents, Value.int .i64 y17.of_]] w_ ∧ Adv (mm [rowR 61 b13 [Value.int .i64 0, Value.int .i64 0, Value.int .i64 0, Value.int .i64 0, Value.int .i64 0, Value.int IntKind.u8 (0), Value.int .i64 0, Value.int .i64 0]] M) (mm [rowR 61 b13 [Value.int .i64 y17.id, Value.int .i64 y17.source, Value.int .i64 y17.account, Value.int .i64 y17.made, Value.int .i64 y17.about, Value.int IntKind.u8 (y17.kind), Value.int .i64 y17.cents, Value.int .i64 y17.of_]] M) w34 w_), ([16, 17], [(4, Value.pointer (some ⟨b13, 0, none⟩)), (16, Value.agg (List.toArray [Value.int .i64 y17.id, Value.int .i64 y17.source, Value.int .i64 y17.account, Value.int .i64 y17.made, Value.int .i64 y17.about, Value.int IntKind.u8 (y17.kind), Value.int .i64 y17.cents, Value.int .i64 y17.of_])), (31, Value.bool false)], fun w_ => Ext w34 w_), ([15, 17], [(4, Value.pointer (some ⟨b13, 0, none⟩)), (25, Value.bool false)], fun w_ => Hp w [] M [rowR 61 b13 [Value.int .i64 y17.id, Value.int .i64 y17.source, Value.int .i64 y17.account, Value.int .i64 y17.made, Value.int .i64 y17.about, Value.int IntKind.u8 (y17.kind), Value.int .i64 y17.cents, Value.int .i64 y17.of_]] w_ ∧ Adv (mm [rowR 61 b13 [Value.int .i64 0, Value.int .i64 0, Value.int .i64 0, Value.int .i64 0, Value.int .i64 0, Value.int IntKind.u8 (0), Value.int .i64 0, Value.int .i64 0]] M) (mm [rowR 61 b13 [Value.int .i64 y17.id, Value.int .i64 y17.source, Value.int .i64 y17.account, Value.int .i64 y17.made, Value.int .i64 y17.about, Value.int IntKind.u8 (y17.kind), Value.int .i64 y17.cents, Value.int .i64 y17.of_]] M) w34 w_), ([17], [(4, Value.pointer (some ⟨b13, 0, none⟩)), (31, Value.bool false)], fun w_ => Hp w [] M [rowR 61 b13 [Value.int .i64 y17.id, Value.int .i64 y17.source, Value.int .i64 y17.account, Value.int .i64 y17.made, Value.int .i64 y17.about, Value.int IntKind.u8 (y17.kind), Value.int .i64 y17.cents, Value.int .i64 y17.of_]] w_ ∧ Adv (mm [rowR 61 b13 [Value.int .i64 0, Value.int .i64 0, Value.int .i64 0, Value.int .i64 0, Value.int .i64 0, Value.int IntKind.u8 (0), Value.int .i64 0, Value.int .i64 0]] M) (mm [rowR 61 b13 [Value.int .i64 y17.id, Value.int .i64 y17.source, Value.int .i64 y17.account, Value.int .i64 y17.made, Value.int .i64 y17.about, Value.int IntKind.u8 (y17.kind), Value.int .i64 y17.cents, Value.int .i64 y17.of_]] M) w34 w_), ([], [(4, Value.pointer (some ⟨b13, 0, none⟩)), (5, Value.bool false)], fun w_ => Hp w [] M [rowR 61 b13 [Value.int .i64 y17.id, Value.int .i64 y17.source, Value.int .i64 y17.account, Value.int .i64 y17.made, Value.int .i64 y17.about, Value.int IntKind.u8 (y17.kind), Value.int .i64 y17.cents, Value.int .i64 y17.of_]] w_ ∧ Adv (mm [rowR 61 b13 [Value.int .i64 0, Value.int .i64 0, Value.int .i64 0, Value.int .i64 0, Value.int .i64 0, Value.int IntKind.u8 (0), Value.int .i64 0, Value.int .i64 0]] M) (mm [rowR 61 b13 [Value.int .i64 y17.id, Value.int .i64 y17.source, Value.int .i64 y17.account, Value.int .i64 y17.made, Value.int .i64 y17.about, Value.int IntKind.u8 (y17.kind), Value.int .i64 y17.cents, Value.int .i64 y17.of_]] M) w34 w_)] (AllS.cons ?_ (AllS.cons ?_ (AllS.cons ?_ (AllS.cons ?_ (AllS.cons ?_ (AllS.cons ?_ (AllS.cons ?_ (AllS.cons ?_ (AllS.cons ?_ (AllS.cons ?_ (AllS.cons ?_ (AllS.cons ?_ (AllS.cons ?_ (AllS.cons ?_ (AllS.cons ?_ (AllS.cons ?_ (AllS.cons ?_ (AllS.cons ?_ (AllS.cons ?_ (AllS.cons ?_ (AllS.cons ?_ (AllS.cons ?_ (AllS.cons ?_ (AllS.nil)))))))))))))))))))))))) _ _ _ _ 0 _ rfl rfl hI64.kp
    ·skip
     intro w212 ex_
     have hI213 := (Hp.start (Mu := []) hI37.mlt).ext ex_
     refine .inr ⟨List.cons_ne_nil _ _, [10, 12, 16], by kernel_rfl, AllL.cons ?_ (AllL.cons ?_ (AllL.cons ?_ (AllL.nil)))⟩
     ·skip
      refine ⟨_, rfl, fun Q_ hQ_ => ?_⟩
      refine Reg.pass rfl rfl rfl rfl ?_
      refine Reg.nilS (L0 := [(3, _), (4, _), (16, _), (25, _)]) (Sub.cons rfl (Sub.cons rfl (Sub.cons rfl (Sub.cons rfl (Sub.nil _))))) (hQ_ 1 _ _ _ rfl (.inr hI213.kp) rfl (fun w_ e_ => ?_))
      exact ex_.trans e_
     ·skip
      refine ⟨_, rfl, fun Q_ hQ_ => ?_⟩
      refine Reg.pass rfl rfl rfl rfl ?_
      refine Reg.nilS (L0 := [(4, _), (6, _), (16, _), (25, _)]) (Sub.cons rfl (Sub.cons rfl (Sub.cons rfl (Sub.cons rfl (Sub.nil _))))) (hQ_ 2 _ _ _ rfl (.inr hI213.kp) rfl (fun w_ e_ => ?_))
      exact ex_.trans e_
     ·skip
      refine ⟨_, rfl, fun Q_ hQ_ => ?_⟩
      have hI214 := hI37.join hI213
      refine y_st 0 hI214 rfl rfl rfl rfl Tryd.sizeOf61 rfl rfl (one1 rfl (one1 rfl (one1 rfl (one1 rfl (one1 rfl (one1 rfl (one1 rfl (one1 rfl one0)))))))) ?_
      intro w215 hI216 x217
      refine Reg.nilS (L0 := [(3, _), (4, _), (6, _), (25, _)]) (Sub.cons rfl (Sub.cons rfl (Sub.cons rfl (Sub.cons rfl (Sub.nil _))))) (hQ_ 3 _ _ _ rfl (.inl rfl) rfl (fun w_ e_ => ?_))
      exact ⟨hI216.ext e_, ((Adv.of_ext ex_).trans x217).trans (Adv.of_ext e_)⟩
    ·skip
     intro w218 ex_
     have hI219 := (Hp.start (Mu := []) hI37.mlt).ext ex_
     refine .inr ⟨List.cons_ne_nil _ _, [11, 12, 16], by kernel_rfl, AllL.cons ?_ (AllL.cons ?_ (AllL.cons ?_ (AllL.nil)))⟩
     ·skip
      refine ⟨_, rfl, fun Q_ hQ_ => ?_⟩
      refine Reg.pass rfl rfl rfl rfl ?_
      refine Reg.nilS (L0 := [(3, _), (4, _), (16, _), (25, _)]) (Sub.cons rfl (Sub.cons rfl (Sub.cons rfl (Sub.cons rfl (Sub.nil _))))) (hQ_ 4 _ _ _ rfl (.inr hI219.kp) rfl (fun w_ e_ => ?_))
      exact ex_.trans e_
     ·skip
      refine ⟨_, rfl, fun Q_ hQ_ => ?_⟩
      refine Reg.pass rfl rfl rfl rfl ?_
      refine Reg.nilS (L0 := [(4, _), (16, _), (25, _)]) (Sub.cons rfl (Sub.cons rfl (Sub.cons rfl (Sub.nil _)))) (hQ_ 5 _ _ _ rfl (.inr hI219.kp) rfl (fun w_ e_ => ?_))
      exact ex_.trans e_
     ·skip
      refine ⟨_, rfl, fun Q_ hQ_ => ?_⟩
      have hI220 := hI37.join hI219
      refine y_st 0 hI220 rfl rfl rfl rfl Tryd.sizeOf61 rfl rfl (one1 rfl (one1 rfl (one1 rfl (one1 rfl (one1 rfl (one1 rfl (one1 rfl (one1 rfl one0)))))))) ?_
      intro w221 hI222 x223
      refine Reg.nilS (L0 := [(3, _), (4, _), (25, _)]) (Sub.cons rfl (Sub.cons rfl (Sub.cons rfl (Sub.nil _)))) (hQ_ 6 _ _ _ rfl (.inl rfl) rfl (fun w_ e_ => ?_))
      exact ⟨hI222.ext e_, ((Adv.of_ext ex_).trans x223).trans (Adv.of_ext e_)⟩
    ·skip
     intro w224 ex_
     have hI225 := (Hp.start (Mu := []) hI37.mlt).ext ex_
     refine .inr ⟨List.cons_ne_nil _ _, [10, 13, 16], by kernel_rfl, AllL.cons ?_ (AllL.cons ?_ (AllL.cons ?_ (AllL.nil)))⟩
     ·skip
      refine ⟨_, rfl, fun Q_ hQ_ => ?_⟩
      refine Reg.pass rfl rfl rfl rfl ?_
      refine Reg.nilS (L0 := [(4, _), (16, _), (25, _)]) (Sub.cons rfl (Sub.cons rfl (Sub.cons rfl (Sub.nil _)))) (hQ_ 5 _ _ _ rfl (.inr hI225.kp) rfl (fun w_ e_ => ?_))
      exact ex_.trans e_
     ·skip
      refine ⟨_, rfl, fun Q_ hQ_ => ?_⟩
      refine Reg.pass rfl rfl rfl rfl ?_
      refine Reg.nilS (L0 := [(4, _), (6, _), (16, _), (25, _)]) (Sub.cons rfl (Sub.cons rfl (Sub.cons rfl (Sub.cons rfl (Sub.nil _))))) (hQ_ 7 _ _ _ rfl (.inr hI225.kp) rfl (fun w_ e_ => ?_))
      exact ex_.trans e_
     ·skip
      refine ⟨_, rfl, fun Q_ hQ_ => ?_⟩
      have hI226 := hI37.join hI225
      refine y_st 0 hI226 rfl rfl rfl rfl Tryd.sizeOf61 rfl rfl (one1 rfl (one1 rfl (one1 rfl (one1 rfl (one1 rfl (one1 rfl (one1 rfl (one1 rfl one0)))))))) ?_
      intro w227 hI228 x229
      refine Reg.nilS (L0 := [(4, _), (6, _), (25, _)]) (Sub.cons rfl (Sub.cons rfl (Sub.cons rfl (Sub.nil _)))) (hQ_ 8 _ _ _ rfl (.inl rfl) rfl (fun w_ e_ => ?_))
      exact ⟨hI228.ext e_, ((Adv.of_ext ex_).trans x229).trans (Adv.of_ext e_)⟩
    ·skip
     rintro w230 ⟨hI231, hA_⟩
     refine .inr ⟨List.cons_ne_nil _ _, [10, 12], by kernel_rfl, AllL.cons ?_ (AllL.cons ?_ (AllL.nil))⟩
     ·skip
      refine ⟨_, rfl, fun Q_ hQ_ => ?_⟩
      refine Reg.pass rfl rfl rfl rfl ?_
      refine Reg.nilS (L0 := [(3, _), (4, _), (25, _)]) (Sub.cons rfl (Sub.cons rfl (Sub.cons rfl (Sub.nil _)))) (hQ_ 6 _ _ _ rfl (.inl rfl) rfl (fun w_ e_ => ?_))
      exact ⟨hI231.ext e_, hA_.trans (Adv.of_ext e_)⟩
     ·skip
      refine ⟨_, rfl, fun Q_ hQ_ => ?_⟩
      refine Reg.pass rfl rfl rfl rfl ?_
      refine Reg.nilS (L0 := [(4, _), (6, _), (25, _)]) (Sub.cons rfl (Sub.cons rfl (Sub.cons rfl (Sub.nil _)))) (hQ_ 8 _ _ _ rfl (.inl rfl) rfl (fun w_ e_ => ?_))
      exact ⟨hI231.ext e_, hA_.trans (Adv.of_ext e_)⟩
    ·skip
     intro w232 ex_
     have hI233 := (Hp.start (Mu := []) hI37.mlt).ext ex_
     refine .inr ⟨List.cons_ne_nil _ _, [12, 16], by kernel_rfl, AllL.cons ?_ (AllL.cons ?_ (AllL.nil))⟩
     ·skip
      refine ⟨_, rfl, fun Q_ hQ_ => ?_⟩
      refine Reg.pass rfl rfl rfl rfl ?_
      refine Reg.nilS (L0 := [(4, _), (16, _), (25, _)]) (Sub.cons rfl (Sub.cons rfl (Sub.cons rfl (Sub.nil _)))) (hQ_ 9 _ _ _ rfl (.inr hI233.kp) rfl (fun w_ e_ => ?_))
      exact ex_.trans e_
     ·skip
      refine ⟨_, rfl, fun Q_ hQ_ => ?_⟩
      have hI234 := hI37.join hI233
      refine y_st 0 hI234 rfl rfl rfl rfl Tryd.sizeOf61 rfl rfl (one1 rfl (one1 rfl (one1 rfl (one1 rfl (one1 rfl (one1 rfl (one1 rfl (one1 rfl one0)))))))) ?_
      intro w235 hI236 x237
      refine Reg.nilS (L0 := [(3, _), (4, _), (25, _)]) (Sub.cons rfl (Sub.cons rfl (Sub.cons rfl (Sub.nil _)))) (hQ_ 10 _ _ _ rfl (.inl rfl) rfl (fun w_ e_ => ?_))
      exact ⟨hI236.ext e_, ((Adv.of_ext ex_).trans x237).trans (Adv.of_ext e_)⟩
    ·skip
     intro w238 ex_
     have hI239 := (Hp.start (Mu := []) hI37.mlt).ext ex_
     refine .inr ⟨List.cons_ne_nil _ _, [11, 13, 16], by kernel_rfl, AllL.cons ?_ (AllL.cons ?_ (AllL.cons ?_ (AllL.nil)))⟩
     ·skip
      refine ⟨_, rfl, fun Q_ hQ_ => ?_⟩
      refine Reg.pass rfl rfl rfl rfl ?_
      refine Reg.nilS (L0 := [(4, _), (16, _), (25, _)]) (Sub.cons rfl (Sub.cons rfl (Sub.cons rfl (Sub.nil _)))) (hQ_ 9 _ _ _ rfl (.inr hI239.kp) rfl (fun w_ e_ => ?_))
      exact ex_.trans e_
     ·skip
      refine ⟨_, rfl, fun Q_ hQ_ => ?_⟩
      refine Reg.pass rfl rfl rfl rfl ?_
      refine Reg.nilS (L0 := [(4, _), (16, _), (25, _)]) (Sub.cons rfl (Sub.cons rfl (Sub.cons rfl (Sub.nil _)))) (hQ_ 11 _ _ _ rfl (.inr hI239.kp) rfl (fun w_ e_ => ?_))
      exact ex_.trans e_
     ·skip
      refine ⟨_, rfl, fun Q_ hQ_ => ?_⟩
      have hI240 := hI37.join hI239
      refine y_st 0 hI240 rfl rfl rfl rfl Tryd.sizeOf61 rfl rfl (one1 rfl (one1 rfl (one1 rfl (one1 rfl (one1 rfl (one1 rfl (one1 rfl (one1 rfl one0)))))))) ?_
      intro w241 hI242 x243
      refine Reg.nilS (L0 := [(4, _), (25, _)]) (Sub.cons rfl (Sub.cons rfl (Sub.nil _))) (hQ_ 12 _ _ _ rfl (.inl rfl) rfl (fun w_ e_ => ?_))
      exact ⟨hI242.ext e_, ((Adv.of_ext ex_).trans x243).trans (Adv.of_ext e_)⟩
    ·skip
     rintro w244 ⟨hI245, hA_⟩
     refine .inr ⟨List.cons_ne_nil _ _, [11, 12], by kernel_rfl, AllL.cons ?_ (AllL.cons ?_ (AllL.nil))⟩
     ·skip
      refine ⟨_, rfl, fun Q_ hQ_ => ?_⟩
      refine Reg.pass rfl rfl rfl rfl ?_
      refine Reg.nilS (L0 := [(3, _), (4, _), (25, _)]) (Sub.cons rfl (Sub.cons rfl (Sub.cons rfl (Sub.nil _)))) (hQ_ 10 _ _ _ rfl (.inl rfl) rfl (fun w_ e_ => ?_))
      exact ⟨hI245.ext e_, hA_.trans (Adv.of_ext e_)⟩
     ·skip
      refine ⟨_, rfl, fun Q_ hQ_ => ?_⟩
      refine Reg.pass rfl rfl rfl rfl ?_
      refine Reg.nilS (L0 := [(4, _), (25, _)]) (Sub.cons rfl (Sub.cons rfl (Sub.nil _))) (hQ_ 12 _ _ _ rfl (.inl rfl) rfl (fun w_ e_ => ?_))
      exact ⟨hI245.ext e_, hA_.trans (Adv.of_ext e_)⟩
    ·skip
     intro w246 ex_
     have hI247 := (Hp.start (Mu := []) hI37.mlt).ext ex_
     refine .inr ⟨List.cons_ne_nil _ _, [10, 16], by kernel_rfl, AllL.cons ?_ (AllL.cons ?_ (AllL.nil))⟩
     ·skip
      refine ⟨_, rfl, fun Q_ hQ_ => ?_⟩
      refine Reg.pass rfl rfl rfl rfl ?_
      refine Reg.nilS (L0 := [(4, _), (16, _), (25, _)]) (Sub.cons rfl (Sub.cons rfl (Sub.cons rfl (Sub.nil _)))) (hQ_ 11 _ _ _ rfl (.inr hI247.kp) rfl (fun w_ e_ => ?_))
      exact ex_.trans e_
     ·skip
      refine ⟨_, rfl, fun Q_ hQ_ => ?_⟩
      have hI248 := hI37.join hI247
      refine y_st 0 hI248 rfl rfl rfl rfl Tryd.sizeOf61 rfl rfl (one1 rfl (one1 rfl (one1 rfl (one1 rfl (one1 rfl (one1 rfl (one1 rfl (one1 rfl one0)))))))) ?_
      intro w249 hI250 x251
      refine Reg.nilS (L0 := [(4, _), (6, _), (25, _)]) (Sub.cons rfl (Sub.cons rfl (Sub.cons rfl (Sub.nil _)))) (hQ_ 13 _ _ _ rfl (.inl rfl) rfl (fun w_ e_ => ?_))
      exact ⟨hI250.ext e_, ((Adv.of_ext ex_).trans x251).trans (Adv.of_ext e_)⟩
    ·skip
     rintro w252 ⟨hI253, hA_⟩
     refine .inr ⟨List.cons_ne_nil _ _, [10, 13], by kernel_rfl, AllL.cons ?_ (AllL.cons ?_ (AllL.nil))⟩
     ·skip
      refine ⟨_, rfl, fun Q_ hQ_ => ?_⟩
      refine Reg.pass rfl rfl rfl rfl ?_
      refine Reg.nilS (L0 := [(4, _), (25, _)]) (Sub.cons rfl (Sub.cons rfl (Sub.nil _))) (hQ_ 12 _ _ _ rfl (.inl rfl) rfl (fun w_ e_ => ?_))
      exact ⟨hI253.ext e_, hA_.trans (Adv.of_ext e_)⟩
     ·skip
      refine ⟨_, rfl, fun Q_ hQ_ => ?_⟩
      refine Reg.pass rfl rfl rfl rfl ?_
      refine Reg.nilS (L0 := [(4, _), (6, _), (25, _)]) (Sub.cons rfl (Sub.cons rfl (Sub.cons rfl (Sub.nil _)))) (hQ_ 13 _ _ _ rfl (.inl rfl) rfl (fun w_ e_ => ?_))
      exact ⟨hI253.ext e_, hA_.trans (Adv.of_ext e_)⟩
    ·skip
     intro w254 ex_
     have hI255 := (Hp.start (Mu := []) hI37.mlt).ext ex_
     refine .inr ⟨List.cons_ne_nil _ _, [13, 16], by kernel_rfl, AllL.cons ?_ (AllL.cons ?_ (AllL.nil))⟩
     ·skip
      refine ⟨_, rfl, fun Q_ hQ_ => ?_⟩
      refine Reg.pass rfl rfl rfl rfl ?_
      refine Reg.nilS (L0 := [(4, _), (16, _), (25, _)]) (Sub.cons rfl (Sub.cons rfl (Sub.cons rfl (Sub.nil _)))) (hQ_ 14 _ _ _ rfl (.inr hI255.kp) rfl (fun w_ e_ => ?_))
      exact ex_.trans e_
     ·skip
      refine ⟨_, rfl, fun Q_ hQ_ => ?_⟩
      have hI256 := hI37.join hI255
      refine y_st 0 hI256 rfl rfl rfl rfl Tryd.sizeOf61 rfl rfl (one1 rfl (one1 rfl (one1 rfl (one1 rfl (one1 rfl (one1 rfl (one1 rfl (one1 rfl one0)))))))) ?_
      intro w257 hI258 x259
      refine Reg.nilS (L0 := [(4, _), (25, _)]) (Sub.cons rfl (Sub.cons rfl (Sub.nil _))) (hQ_ 15 _ _ _ rfl (.inl rfl) rfl (fun w_ e_ => ?_))
      exact ⟨hI258.ext e_, ((Adv.of_ext ex_).trans x259).trans (Adv.of_ext e_)⟩
    ·skip
     rintro w260 ⟨hI261, hA_⟩
     refine .inr ⟨List.cons_ne_nil _ _, [12], by kernel_rfl, AllL.cons ?_ (AllL.nil)⟩
     ·skip
      refine ⟨_, rfl, fun Q_ hQ_ => ?_⟩
      refine Reg.pass rfl rfl rfl rfl ?_
      refine Reg.nilS (L0 := [(4, _), (25, _)]) (Sub.cons rfl (Sub.cons rfl (Sub.nil _))) (hQ_ 15 _ _ _ rfl (.inl rfl) rfl (fun w_ e_ => ?_))
      exact ⟨hI261.ext e_, hA_.trans (Adv.of_ext e_)⟩
    ·skip
     intro w262 ex_
     have hI263 := (Hp.start (Mu := []) hI37.mlt).ext ex_
     refine .inr ⟨List.cons_ne_nil _ _, [11, 16], by kernel_rfl, AllL.cons ?_ (AllL.cons ?_ (AllL.nil))⟩
     ·skip
      refine ⟨_, rfl, fun Q_ hQ_ => ?_⟩
      refine Reg.pass rfl rfl rfl rfl ?_
      refine Reg.nilS (L0 := [(4, _), (16, _), (25, _)]) (Sub.cons rfl (Sub.cons rfl (Sub.cons rfl (Sub.nil _)))) (hQ_ 14 _ _ _ rfl (.inr hI263.kp) rfl (fun w_ e_ => ?_))
      exact ex_.trans e_
     ·skip
      refine ⟨_, rfl, fun Q_ hQ_ => ?_⟩
      have hI264 := hI37.join hI263
      refine y_st 0 hI264 rfl rfl rfl rfl Tryd.sizeOf61 rfl rfl (one1 rfl (one1 rfl (one1 rfl (one1 rfl (one1 rfl (one1 rfl (one1 rfl (one1 rfl one0)))))))) ?_
      intro w265 hI266 x267
      refine Reg.nilS (L0 := [(4, _), (25, _)]) (Sub.cons rfl (Sub.cons rfl (Sub.nil _))) (hQ_ 16 _ _ _ rfl (.inl rfl) rfl (fun w_ e_ => ?_))
      exact ⟨hI266.ext e_, ((Adv.of_ext ex_).trans x267).trans (Adv.of_ext e_)⟩
    ·skip
     rintro w268 ⟨hI269, hA_⟩
     refine .inr ⟨List.cons_ne_nil _ _, [11, 13], by kernel_rfl, AllL.cons ?_ (AllL.cons ?_ (AllL.nil))⟩
     ·skip
      refine ⟨_, rfl, fun Q_ hQ_ => ?_⟩
      refine Reg.pass rfl rfl rfl rfl ?_
      refine Reg.nilS (L0 := [(4, _), (25, _)]) (Sub.cons rfl (Sub.cons rfl (Sub.nil _))) (hQ_ 15 _ _ _ rfl (.inl rfl) rfl (fun w_ e_ => ?_))
      exact ⟨hI269.ext e_, hA_.trans (Adv.of_ext e_)⟩
     ·skip
      refine ⟨_, rfl, fun Q_ hQ_ => ?_⟩
      refine Reg.pass rfl rfl rfl rfl ?_
      refine Reg.nilS (L0 := [(4, _), (25, _)]) (Sub.cons rfl (Sub.cons rfl (Sub.nil _))) (hQ_ 16 _ _ _ rfl (.inl rfl) rfl (fun w_ e_ => ?_))
      exact ⟨hI269.ext e_, hA_.trans (Adv.of_ext e_)⟩
    ·skip
     rintro w270 ⟨hI271, hA_⟩
     refine .inr ⟨List.cons_ne_nil _ _, [10], by kernel_rfl, AllL.cons ?_ (AllL.nil)⟩
     ·skip
      refine ⟨_, rfl, fun Q_ hQ_ => ?_⟩
      refine Reg.pass rfl rfl rfl rfl ?_
      refine Reg.nilS (L0 := [(4, _), (25, _)]) (Sub.cons rfl (Sub.cons rfl (Sub.nil _))) (hQ_ 16 _ _ _ rfl (.inl rfl) rfl (fun w_ e_ => ?_))
      exact ⟨hI271.ext e_, hA_.trans (Adv.of_ext e_)⟩
    ·skip
     intro w272 ex_
     have hI273 := (Hp.start (Mu := []) hI37.mlt).ext ex_
     refine .inr ⟨List.cons_ne_nil _ _, [14, 16], by kernel_rfl, AllL.cons ?_ (AllL.cons ?_ (AllL.nil))⟩
     ·skip
      refine ⟨_, rfl, fun Q_ hQ_ => ?_⟩
      refine Reg.pass rfl rfl rfl rfl ?_
      refine Reg.nilS (L0 := [(4, _), (16, _), (25, _)]) (Sub.cons rfl (Sub.cons rfl (Sub.cons rfl (Sub.nil _)))) (hQ_ 17 _ _ _ rfl (.inr hI273.kp) rfl (fun w_ e_ => ?_))
      exact ex_.trans e_
     ·skip
      refine ⟨_, rfl, fun Q_ hQ_ => ?_⟩
      have hI274 := hI37.join hI273
      refine y_st 0 hI274 rfl rfl rfl rfl Tryd.sizeOf61 rfl rfl (one1 rfl (one1 rfl (one1 rfl (one1 rfl (one1 rfl (one1 rfl (one1 rfl (one1 rfl one0)))))))) ?_
      intro w275 hI276 x277
      refine Reg.nilS (L0 := [(4, _), (25, _)]) (Sub.cons rfl (Sub.cons rfl (Sub.nil _))) (hQ_ 18 _ _ _ rfl (.inl rfl) rfl (fun w_ e_ => ?_))
      exact ⟨hI276.ext e_, ((Adv.of_ext ex_).trans x277).trans (Adv.of_ext e_)⟩
    ·skip
     rintro w278 ⟨hI279, hA_⟩
     refine .inr ⟨List.cons_ne_nil _ _, [13], by kernel_rfl, AllL.cons ?_ (AllL.nil)⟩
     ·skip
      refine ⟨_, rfl, fun Q_ hQ_ => ?_⟩
      refine Reg.pass rfl rfl rfl rfl ?_
      refine Reg.nilS (L0 := [(4, _), (25, _)]) (Sub.cons rfl (Sub.cons rfl (Sub.nil _))) (hQ_ 18 _ _ _ rfl (.inl rfl) rfl (fun w_ e_ => ?_))
      exact ⟨hI279.ext e_, hA_.trans (Adv.of_ext e_)⟩
    ·skip
     rintro w280 ⟨hI281, hA_⟩
     refine .inr ⟨List.cons_ne_nil _ _, [11], by kernel_rfl, AllL.cons ?_ (AllL.nil)⟩
     ·skip
      refine ⟨_, rfl, fun Q_ hQ_ => ?_⟩
      refine Reg.pass rfl rfl rfl rfl ?_
      refine Reg.nilS (L0 := [(4, _), (25, _)]) (Sub.cons rfl (Sub.cons rfl (Sub.nil _))) (hQ_ 18 _ _ _ rfl (.inl rfl) rfl (fun w_ e_ => ?_))
      exact ⟨hI281.ext e_, hA_.trans (Adv.of_ext e_)⟩
    ·skip
     intro w282 ex_
     have hI283 := (Hp.start (Mu := []) hI37.mlt).ext ex_
     refine .inr ⟨List.cons_ne_nil _ _, [15, 16], by kernel_rfl, AllL.cons ?_ (AllL.cons ?_ (AllL.nil))⟩
     ·skip
      refine ⟨_, rfl, fun Q_ hQ_ => ?_⟩
      refine s_pkF rfl rfl rfl ?_
      refine Reg.nilS (L0 := [(4, _), (16, _), (31, _)]) (Sub.cons rfl (Sub.cons rfl (Sub.cons rfl (Sub.nil _)))) (hQ_ 19 _ _ _ rfl (.inr hI283.kp) rfl (fun w_ e_ => ?_))
      exact ex_.trans e_
     ·skip
      refine ⟨_, rfl, fun Q_ hQ_ => ?_⟩
      have hI284 := hI37.join hI283
      refine y_st 0 hI284 rfl rfl rfl rfl Tryd.sizeOf61 rfl rfl (one1 rfl (one1 rfl (one1 rfl (one1 rfl (one1 rfl (one1 rfl (one1 rfl (one1 rfl one0)))))))) ?_
      intro w285 hI286 x287
      refine Reg.nilS (L0 := [(4, _), (25, _)]) (Sub.cons rfl (Sub.cons rfl (Sub.nil _))) (hQ_ 20 _ _ _ rfl (.inl rfl) rfl (fun w_ e_ => ?_))
      exact ⟨hI286.ext e_, ((Adv.of_ext ex_).trans x287).trans (Adv.of_ext e_)⟩
    ·skip
     rintro w288 ⟨hI289, hA_⟩
     refine .inr ⟨List.cons_ne_nil _ _, [14], by kernel_rfl, AllL.cons ?_ (AllL.nil)⟩
     ·skip
      refine ⟨_, rfl, fun Q_ hQ_ => ?_⟩
      refine Reg.pass rfl rfl rfl rfl ?_
      refine Reg.nilS (L0 := [(4, _), (25, _)]) (Sub.cons rfl (Sub.cons rfl (Sub.nil _))) (hQ_ 20 _ _ _ rfl (.inl rfl) rfl (fun w_ e_ => ?_))
      exact ⟨hI289.ext e_, hA_.trans (Adv.of_ext e_)⟩
    ·skip
     intro w290 ex_
     have hI291 := (Hp.start (Mu := []) hI37.mlt).ext ex_
     refine .inr ⟨List.cons_ne_nil _ _, [16], by kernel_rfl, AllL.cons ?_ (AllL.nil)⟩
     ·skip
      refine ⟨_, rfl, fun Q_ hQ_ => ?_⟩
      have hI292 := hI37.join hI291
      refine y_st 0 hI292 rfl rfl rfl rfl Tryd.sizeOf61 rfl rfl (one1 rfl (one1 rfl (one1 rfl (one1 rfl (one1 rfl (one1 rfl (one1 rfl (one1 rfl one0)))))))) ?_
      intro w293 hI294 x295
      refine Reg.nilS (L0 := [(4, _), (31, _)]) (Sub.cons rfl (Sub.cons rfl (Sub.nil _))) (hQ_ 21 _ _ _ rfl (.inl rfl) rfl (fun w_ e_ => ?_))
      exact ⟨hI294.ext e_, ((Adv.of_ext ex_).trans x295).trans (Adv.of_ext e_)⟩
    ·skip
     rintro w296 ⟨hI297, hA_⟩
     refine .inr ⟨List.cons_ne_nil _ _, [15], by kernel_rfl, AllL.cons ?_ (AllL.nil)⟩
     ·skip
      refine ⟨_, rfl, fun Q_ hQ_ => ?_⟩
      refine s_pkF rfl rfl rfl ?_
      refine Reg.nilS (L0 := [(4, _), (31, _)]) (Sub.cons rfl (Sub.cons rfl (Sub.nil _))) (hQ_ 21 _ _ _ rfl (.inl rfl) rfl (fun w_ e_ => ?_))
      exact ⟨hI297.ext e_, hA_.trans (Adv.of_ext e_)⟩
    ·skip
     rintro w298 ⟨hI299, hA_⟩
     refine .inr ⟨List.cons_ne_nil _ _, [17], by kernel_rfl, AllL.cons ?_ (AllL.nil)⟩
     ·skip
      refine ⟨_, rfl, fun Q_ hQ_ => ?_⟩
      refine s_as rfl rfl ?_
      refine Reg.nilS (L0 := [(4, _), (5, _)]) (Sub.cons rfl (Sub.cons rfl (Sub.nil _))) (hQ_ 22 _ _ _ rfl (.inl rfl) rfl (fun w_ e_ => ?_))
      exact ⟨hI299.ext e_, hA_.trans (Adv.of_ext e_)⟩
    ·skip
     rintro w300 ⟨hI301, hA_⟩
     refine .inl ⟨rfl, ?_⟩
     obtain rfl := Option.some.inj h40
     refine ⟨rfl, (false, y17.id, y17.source, y17.account, y17.made, y17.about, y17.kind, y17.cents, y17.of_), ⟨hI301, hA_, r22, r23, r24, r25, r26, r27, r28, r29, rfl⟩, Sub.cons rfl (Sub.cons rfl (Sub.nil _))⟩
  ·replace h40 := cdF hg61 h40
   refine Reg.pass rfl rfl rfl rfl ?_
   refine Reg.pass rfl rfl rfl rfl ?_
   refine Reg.pass rfl rfl rfl rfl ?_
   refine Reg.pass rfl rfl rfl rfl ?_
   refine Reg.pass rfl rfl rfl rfl ?_
   refine s_pkF rfl rfl rfl ?_
   refine s_mv rfl rfl ?_
   refine Reg.nilX ⟨rfl, rfl, rfl, ?_⟩
   intro w302 e303
   have hI304 := (Hp.start (Mu := []) hI37.mlt).ext e303
   refine SeaWalk.dag [([10, 11, 12, 13, 14, 15, 16, 17], _, fun w_ => Ext w34 w_), ([11, 12, 13, 14, 15, 16, 17], [(3, Value.pointer (some ⟨b7, 0, none⟩)), (4, Value.pointer (some ⟨b13, 0, none⟩)), (16, Value.agg (List.toArray [Value.int .i64 y17.id, Value.int .i64 y17.source, Value.int .i64 y17.account, Value.int .i64 y17.made, Value.int .i64 y17.about, Value.int IntKind.u8 (y17.kind), Value.int .i64 y17.cents, Value.int .i64 y17.of_])), (25, Value.bool false)], fun w_ => Ext w34 w_), ([10, 11, 13, 14, 15, 16, 17], [(4, Value.pointer (some ⟨b13, 0, none⟩)), (6, Value.pointer (some ⟨b30, 0, none⟩)), (16, Value.agg (List.toArray [Value.int .i64 y17.id, Value.int .i64 y17.source, Value.int .i64 y17.account, Value.int .i64 y17.made, Value.int .i64 y17.about, Value.int IntKind.u8 (y17.kind), Value.int .i64 y17.cents, Value.int .i64 y17.of_])), (25, Value.bool false)], fun w_ => Ext w34 w_), ([10, 11, 12, 13, 14, 15, 17], [(3, Value.pointer (some ⟨b7, 0, none⟩)), (4, Value.pointer (some ⟨b13, 0, none⟩)), (6, Value.pointer (some ⟨b30, 0, none⟩)), (25, Value.bool false)], fun w_ => Hp w [] M [rowR 61 b13 [Value.int .i64 y17.id, Value.int .i64 y17.source, Value.int .i64 y17.account, Value.int .i64 y17.made, Value.int .i64 y17.about, Value.int IntKind.u8 (y17.kind), Value.int .i64 y17.cents, Value.int .i64 y17.of_]] w_ ∧ Adv (mm [rowR 61 b13 [Value.int .i64 0, Value.int .i64 0, Value.int .i64 0, Value.int .i64 0, Value.int .i64 0, Value.int IntKind.u8 (0), Value.int .i64 0, Value.int .i64 0]] M) (mm [rowR 61 b13 [Value.int .i64 y17.id, Value.int .i64 y17.source, Value.int .i64 y17.account, Value.int .i64 y17.made, Value.int .i64 y17.about, Value.int IntKind.u8 (y17.kind), Value.int .i64 y17.cents, Value.int .i64 y17.of_]] M) w34 w_), ([12, 13, 14, 15, 16, 17], [(3, Value.pointer (some ⟨b7, 0, none⟩)), (4, Value.pointer (some ⟨b13, 0, none⟩)), (16, Value.agg (List.toArray [Value.int .i64 y17.id, Value.int .i64 y17.source, Value.int .i64 y17.account, Value.int .i64 y17.made, Value.int .i64 y17.about, Value.int IntKind.u8 (y17.kind), Value.int .i64 y17.cents, Value.int .i64 y17.of_])), (25, Value.bool false)], fun w_ => Ext w34 w_), ([11, 13, 14, 15, 16, 17], [(4, Value.pointer (some ⟨b13, 0, none⟩)), (16, Value.agg (List.toArray [Value.int .i64 y17.id, Value.int .i64 y17.source, Value.int .i64 y17.account, Value.int .i64 y17.made, Value.int .i64 y17.about, Value.int IntKind.u8 (y17.kind), Value.int .i64 y17.cents, Value.int .i64 y17.of_])), (25, Value.bool false)], fun w_ => Ext w34 w_), ([11, 12, 13, 14, 15, 17], [(3, Value.pointer (some ⟨b7, 0, none⟩)), (4, Value.pointer (some ⟨b13, 0, none⟩)), (25, Value.bool false)], fun w_ => Hp w [] M [rowR 61 b13 [Value.int .i64 y17.id, Value.int .i64 y17.source, Value.int .i64 y17.account, Value.int .i64 y17.made, Value.int .i64 y17.about, Value.int IntKind.u8 (y17.kind), Value.int .i64 y17.cents, Value.int .i64 y17.of_]] w_ ∧ Adv (mm [rowR 61 b13 [Value.int .i64 0, Value.int .i64 0, Value.int .i64 0, Value.int .i64 0, Value.int .i64 0, Value.int IntKind.u8 (0), Value.int .i64 0, Value.int .i64 0]] M) (mm [rowR 61 b13 [Value.int .i64 y17.id, Value.int .i64 y17.source, Value.int .i64 y17.account, Value.int .i64 y17.made, Value.int .i64 y17.about, Value.int IntKind.u8 (y17.kind), Value.int .i64 y17.cents, Value.int .i64 y17.of_]] M) w34 w_), ([10, 11, 14, 15, 16, 17], [(4, Value.pointer (some ⟨b13, 0, none⟩)), (6, Value.pointer (some ⟨b30, 0, none⟩)), (16, Value.agg (List.toArray [Value.int .i64 y17.id, Value.int .i64 y17.source, Value.int .i64 y17.account, Value.int .i64 y17.made, Value.int .i64 y17.about, Value.int IntKind.u8 (y17.kind), Value.int .i64 y17.cents, Value.int .i64 y17.of_])), (25, Value.bool false)], fun w_ => Ext w34 w_), ([10, 11, 13, 14, 15, 17], [(4, Value.pointer (some ⟨b13, 0, none⟩)), (6, Value.pointer (some ⟨b30, 0, none⟩)), (25, Value.bool false)], fun w_ => Hp w [] M [rowR 61 b13 [Value.int .i64 y17.id, Value.int .i64 y17.source, Value.int .i64 y17.account, Value.int .i64 y17.made, Value.int .i64 y17.about, Value.int IntKind.u8 (y17.kind), Value.int .i64 y17.cents, Value.int .i64 y17.of_]] w_ ∧ Adv (mm [rowR 61 b13 [Value.int .i64 0, Value.int .i64 0, Value.int .i64 0, Value.int .i64 0, Value.int .i64 0, Value.int IntKind.u8 (0), Value.int .i64 0, Value.int .i64 0]] M) (mm [rowR 61 b13 [Value.int .i64 y17.id, Value.int .i64 y17.source, Value.int .i64 y17.account, Value.int .i64 y17.made, Value.int .i64 y17.about, Value.int IntKind.u8 (y17.kind), Value.int .i64 y17.cents, Value.int .i64 y17.of_]] M) w34 w_), ([13, 14, 15, 16, 17], [(4, Value.pointer (some ⟨b13, 0, none⟩)), (16, Value.agg (List.toArray [Value.int .i64 y17.id, Value.int .i64 y17.source, Value.int .i64 y17.account, Value.int .i64 y17.made, Value.int .i64 y17.about, Value.int IntKind.u8 (y17.kind), Value.int .i64 y17.cents, Value.int .i64 y17.of_])), (25, Value.bool false)], fun w_ => Ext w34 w_), ([12, 13, 14, 15, 17], [(3, Value.pointer (some ⟨b7, 0, none⟩)), (4, Value.pointer (some ⟨b13, 0, none⟩)), (25, Value.bool false)], fun w_ => Hp w [] M [rowR 61 b13 [Value.int .i64 y17.id, Value.int .i64 y17.source, Value.int .i64 y17.account, Value.int .i64 y17.made, Value.int .i64 y17.about, Value.int IntKind.u8 (y17.kind), Value.int .i64 y17.cents, Value.int .i64 y17.of_]] w_ ∧ Adv (mm [rowR 61 b13 [Value.int .i64 0, Value.int .i64 0, Value.int .i64 0, Value.int .i64 0, Value.int .i64 0, Value.int IntKind.u8 (0), Value.int .i64 0, Value.int .i64 0]] M) (mm [rowR 61 b13 [Value.int .i64 y17.id, Value.int .i64 y17.source, Value.int .i64 y17.account, Value.int .i64 y17.made, Value.int .i64 y17.about, Value.int IntKind.u8 (y17.kind), Value.int .i64 y17.cents, Value.int .i64 y17.of_]] M) w34 w_), ([11, 14, 15, 16, 17], [(4, Value.pointer (some ⟨b13, 0, none⟩)), (16, Value.agg (List.toArray [Value.int .i64 y17.id, Value.int .i64 y17.source, Value.int .i64 y17.account, Value.int .i64 y17.made, Value.int .i64 y17.about, Value.int IntKind.u8 (y17.kind), Value.int .i64 y17.cents, Value.int .i64 y17.of_])), (25, Value.bool false)], fun w_ => Ext w34 w_), ([11, 13, 14, 15, 17], [(4, Value.pointer (some ⟨b13, 0, none⟩)), (25, Value.bool false)], fun w_ => Hp w [] M [rowR 61 b13 [Value.int .i64 y17.id, Value.int .i64 y17.source, Value.int .i64 y17.account, Value.int .i64 y17.made, Value.int .i64 y17.about, Value.int IntKind.u8 (y17.kind), Value.int .i64 y17.cents, Value.int .i64 y17.of_]] w_ ∧ Adv (mm [rowR 61 b13 [Value.int .i64 0, Value.int .i64 0, Value.int .i64 0, Value.int .i64 0, Value.int .i64 0, Value.int IntKind.u8 (0), Value.int .i64 0, Value.int .i64 0]] M) (mm [rowR 61 b13 [Value.int .i64 y17.id, Value.int .i64 y17.source, Value.int .i64 y17.account, Value.int .i64 y17.made, Value.int .i64 y17.about, Value.int IntKind.u8 (y17.kind), Value.int .i64 y17.cents, Value.int .i64 y17.of_]] M) w34 w_), ([10, 11, 14, 15, 17], [(4, Value.pointer (some ⟨b13, 0, none⟩)), (6, Value.pointer (some ⟨b30, 0, none⟩)), (25, Value.bool false)], fun w_ => Hp w [] M [rowR 61 b13 [Value.int .i64 y17.id, Value.int .i64 y17.source, Value.int .i64 y17.account, Value.int .i64 y17.made, Value.int .i64 y17.about, Value.int IntKind.u8 (y17.kind), Value.int .i64 y17.cents, Value.int .i64 y17.of_]] w_ ∧ Adv (mm [rowR 61 b13 [Value.int .i64 0, Value.int .i64 0, Value.int .i64 0, Value.int .i64 0, Value.int .i64 0, Value.int IntKind.u8 (0), Value.int .i64 0, Value.int .i64 0]] M) (mm [rowR 61 b13 [Value.int .i64 y17.id, Value.int .i64 y17.source, Value.int .i64 y17.account, Value.int .i64 y17.made, Value.int .i64 y17.about, Value.int IntKind.u8 (y17.kind), Value.int .i64 y17.cents, Value.int .i64 y17.of_]] M) w34 w_), ([14, 15, 16, 17], [(4, Value.pointer (some ⟨b13, 0, none⟩)), (16, Value.agg (List.toArray [Value.int .i64 y17.id, Value.int .i64 y17.source, Value.int .i64 y17.account, Value.int .i64 y17.made, Value.int .i64 y17.about, Value.int IntKind.u8 (y17.kind), Value.int .i64 y17.cents, Value.int .i64 y17.of_])), (25, Value.bool false)], fun w_ => Ext w34 w_), ([13, 14, 15, 17], [(4, Value.pointer (some ⟨b13, 0, none⟩)), (25, Value.bool false)], fun w_ => Hp w [] M [rowR 61 b13 [Value.int .i64 y17.id, Value.int .i64 y17.source, Value.int .i64 y17.account, Value.int .i64 y17.made, Value.int .i64 y17.about, Value.int IntKind.u8 (y17.kind), Value.int .i64 y17.cents, Value.int .i64 y17.of_]] w_ ∧ Adv (mm [rowR 61 b13 [Value.int .i64 0, Value.int .i64 0, Value.int .i64 0, Value.int .i64 0, Value.int .i64 0, Value.int IntKind.u8 (0), Value.int .i64 0, Value.int .i64 0]] M) (mm [rowR 61 b13 [Value.int .i64 y17.id, Value.int .i64 y17.source, Value.int .i64 y17.account, Value.int .i64 y17.made, Value.int .i64 y17.about, Value.int IntKind.u8 (y17.kind), Value.int .i64 y17.cents, Value.int .i64 y17.of_]] M) w34 w_), ([11, 14, 15, 17], [(4, Value.pointer (some ⟨b13, 0, none⟩)), (25, Value.bool false)], fun w_ => Hp w [] M [rowR 61 b13 [Value.int .i64 y17.id, Value.int .i64 y17.source, Value.int .i64 y17.account, Value.int .i64 y17.made, Value.int .i64 y17.about, Value.int IntKind.u8 (y17.kind), Value.int .i64 y17.cents, Value.int .i64 y17.of_]] w_ ∧ Adv (mm [rowR 61 b13 [Value.int .i64 0, Value.int .i64 0, Value.int .i64 0, Value.int .i64 0, Value.int .i64 0, Value.int IntKind.u8 (0), Value.int .i64 0, Value.int .i64 0]] M) (mm [rowR 61 b13 [Value.int .i64 y17.id, Value.int .i64 y17.source, Value.int .i64 y17.account, Value.int .i64 y17.made, Value.int .i64 y17.about, Value.int IntKind.u8 (y17.kind), Value.int .i64 y17.cents, Value.int .i64 y17.of_]] M) w34 w_), ([15, 16, 17], [(4, Value.pointer (some ⟨b13, 0, none⟩)), (16, Value.agg (List.toArray [Value.int .i64 y17.id, Value.int .i64 y17.source, Value.int .i64 y17.account, Value.int .i64 y17.made, Value.int .i64 y17.about, Value.int IntKind.u8 (y17.kind), Value.int .i64 y17.cents, Value.int .i64 y17.of_])), (25, Value.bool false)], fun w_ => Ext w34 w_), ([14, 15, 17], [(4, Value.pointer (some ⟨b13, 0, none⟩)), (25, Value.bool false)], fun w_ => Hp w [] M [rowR 61 b13 [Value.int .i64 y17.id, Value.int .i64 y17.source, Value.int .i64 y17.account, Value.int .i64 y17.made, Value.int .i64 y17.about, Value.int IntKind.u8 (y17.kind), Value.int .i64 y17.cents, Value.int .i64 y17.of_]] w_ ∧ Adv (mm [rowR 61 b13 [Value.int .i64 0, Value.int .i64 0, Value.int .i64 0, Value.int .i64 0, Value.int .i64 0, Value.int IntKind.u8 (0), Value.int .i64 0, Value.int .i64 0]] M) (mm [rowR 61 b13 [Value.int .i64 y17.id, Value.int .i64 y17.source, Value.int .i64 y17.account, Value.int .i64 y17.made, Value.int .i64 y17.about, Value.int IntKind.u8 (y17.kind), Value.int .i64 y17.cents, Value.int .i64 y17.of_]] M) w34 w_), ([16, 17], [(4, Value.pointer (some ⟨b13, 0, none⟩)), (16, Value.agg (List.toArray [Value.int .i64 y17.id, Value.int .i64 y17.source, Value.int .i64 y17.account, Value.int .i64 y17.made, Value.int .i64 y17.about, Value.int IntKind.u8 (y17.kind), Value.int .i64 y17.cents, Value.int .i64 y17.of_])), (31, Value.bool false)], fun w_ => Ext w34 w_), ([15, 17], [(4, Value.pointer (some ⟨b13, 0, none⟩)), (25, Value.bool false)], fun w_ => Hp w [] M [rowR 61 b13 [Value.int .i64 y17.id, Value.int .i64 y17.source, Value.int .i64 y17.account, Value.int .i64 y17.made, Value.int .i64 y17.about, Value.int IntKind.u8 (y17.kind), Value.int .i64 y17.cents, Value.int .i64 y17.of_]] w_ ∧ Adv (mm [rowR 61 b13 [Value.int .i64 0, Value.int .i64 0, Value.int .i64 0, Value.int .i64 0, Value.int .i64 0, Value.int IntKind.u8 (0), Value.int .i64 0, Value.int .i64 0]] M) (mm [rowR 61 b13 [Value.int .i64 y17.id, Value.int .i64 y17.source, Value.int .i64 y17.account, Value.int .i64 y17.made, Value.int .i64 y17.about, Value.int IntKind.u8 (y17.kind), Value.int .i64 y17.cents, Value.int .i64 y17.of_]] M) w34 w_), ([17], [(4, Value.pointer (some ⟨b13, 0, none⟩)), (31, Value.bool false)], fun w_ => Hp w [] M [rowR 61 b13 [Value.int .i64 y17.id, Value.int .i64 y17.source, Value.int .i64 y17.account, Value.int .i64 y17.made, Value.int .i64 y17.about, Value.int IntKind.u8 (y17.kind), Value.int .i64 y17.cents, Value.int .i64 y17.of_]] w_ ∧ Adv (mm [rowR 61 b13 [Value.int .i64 0, Value.int .i64 0, Value.int .i64 0, Value.int .i64 0, Value.int .i64 0, Value.int IntKind.u8 (0), Value.int .i64 0, Value.int .i64 0]] M) (mm [rowR 61 b13 [Value.int .i64 y17.id, Value.int .i64 y17.source, Value.int .i64 y17.account, Value.int .i64 y17.made, Value.int .i64 y17.about, Value.int IntKind.u8 (y17.kind), Value.int .i64 y17.cents, Value.int .i64 y17.of_]] M) w34 w_), ([], [(4, Value.pointer (some ⟨b13, 0, none⟩)), (5, Value.bool false)], fun w_ => Hp w [] M [rowR 61 b13 [Value.int .i64 y17.id, Value.int .i64 y17.source, Value.int .i64 y17.account, Value.int .i64 y17.made, Value.int .i64 y17.about, Value.int IntKind.u8 (y17.kind), Value.int .i64 y17.cents, Value.int .i64 y17.of_]] w_ ∧ Adv (mm [rowR 61 b13 [Value.int .i64 0, Value.int .i64 0, Value.int .i64 0, Value.int .i64 0, Value.int .i64 0, Value.int IntKind.u8 (0), Value.int .i64 0, Value.int .i64 0]] M) (mm [rowR 61 b13 [Value.int .i64 y17.id, Value.int .i64 y17.source, Value.int .i64 y17.account, Value.int .i64 y17.made, Value.int .i64 y17.about, Value.int IntKind.u8 (y17.kind), Value.int .i64 y17.cents, Value.int .i64 y17.of_]] M) w34 w_)] (AllS.cons ?_ (AllS.cons ?_ (AllS.cons ?_ (AllS.cons ?_ (AllS.cons ?_ (AllS.cons ?_ (AllS.cons ?_ (AllS.cons ?_ (AllS.cons ?_ (AllS.cons ?_ (AllS.cons ?_ (AllS.cons ?_ (AllS.cons ?_ (AllS.cons ?_ (AllS.cons ?_ (AllS.cons ?_ (AllS.cons ?_ (AllS.cons ?_ (AllS.cons ?_ (AllS.cons ?_ (AllS.cons ?_ (AllS.cons ?_ (AllS.cons ?_ (AllS.nil)))))))))))))))))))))))) _ _ _ _ 0 _ rfl rfl hI304.kp
   ·skip
    intro w333 ex_
    have hI334 := (Hp.start (Mu := []) hI37.mlt).ext ex_
    refine .inr ⟨List.cons_ne_nil _ _, [10, 12, 16], by kernel_rfl, AllL.cons ?_ (AllL.cons ?_ (AllL.cons ?_ (AllL.nil)))⟩
    ·skip
     refine ⟨_, rfl, fun Q_ hQ_ => ?_⟩
     refine Reg.pass rfl rfl rfl rfl ?_
     refine Reg.nilS (L0 := [(3, _), (4, _), (16, _), (25, _)]) (Sub.cons rfl (Sub.cons rfl (Sub.cons rfl (Sub.cons rfl (Sub.nil _))))) (hQ_ 1 _ _ _ rfl (.inr hI334.kp) rfl (fun w_ e_ => ?_))
     exact ex_.trans e_
    ·skip
     refine ⟨_, rfl, fun Q_ hQ_ => ?_⟩
     refine Reg.pass rfl rfl rfl rfl ?_
     refine Reg.nilS (L0 := [(4, _), (6, _), (16, _), (25, _)]) (Sub.cons rfl (Sub.cons rfl (Sub.cons rfl (Sub.cons rfl (Sub.nil _))))) (hQ_ 2 _ _ _ rfl (.inr hI334.kp) rfl (fun w_ e_ => ?_))
     exact ex_.trans e_
    ·skip
     refine ⟨_, rfl, fun Q_ hQ_ => ?_⟩
     have hI335 := hI37.join hI334
     refine y_st 0 hI335 rfl rfl rfl rfl Tryd.sizeOf61 rfl rfl (one1 rfl (one1 rfl (one1 rfl (one1 rfl (one1 rfl (one1 rfl (one1 rfl (one1 rfl one0)))))))) ?_
     intro w336 hI337 x338
     refine Reg.nilS (L0 := [(3, _), (4, _), (6, _), (25, _)]) (Sub.cons rfl (Sub.cons rfl (Sub.cons rfl (Sub.cons rfl (Sub.nil _))))) (hQ_ 3 _ _ _ rfl (.inl rfl) rfl (fun w_ e_ => ?_))
     exact ⟨hI337.ext e_, ((Adv.of_ext ex_).trans x338).trans (Adv.of_ext e_)⟩
   ·skip
    intro w339 ex_
    have hI340 := (Hp.start (Mu := []) hI37.mlt).ext ex_
    refine .inr ⟨List.cons_ne_nil _ _, [11, 12, 16], by kernel_rfl, AllL.cons ?_ (AllL.cons ?_ (AllL.cons ?_ (AllL.nil)))⟩
    ·skip
     refine ⟨_, rfl, fun Q_ hQ_ => ?_⟩
     refine Reg.pass rfl rfl rfl rfl ?_
     refine Reg.nilS (L0 := [(3, _), (4, _), (16, _), (25, _)]) (Sub.cons rfl (Sub.cons rfl (Sub.cons rfl (Sub.cons rfl (Sub.nil _))))) (hQ_ 4 _ _ _ rfl (.inr hI340.kp) rfl (fun w_ e_ => ?_))
     exact ex_.trans e_
    ·skip
     refine ⟨_, rfl, fun Q_ hQ_ => ?_⟩
     refine Reg.pass rfl rfl rfl rfl ?_
     refine Reg.nilS (L0 := [(4, _), (16, _), (25, _)]) (Sub.cons rfl (Sub.cons rfl (Sub.cons rfl (Sub.nil _)))) (hQ_ 5 _ _ _ rfl (.inr hI340.kp) rfl (fun w_ e_ => ?_))
     exact ex_.trans e_
    ·skip
     refine ⟨_, rfl, fun Q_ hQ_ => ?_⟩
     have hI341 := hI37.join hI340
     refine y_st 0 hI341 rfl rfl rfl rfl Tryd.sizeOf61 rfl rfl (one1 rfl (one1 rfl (one1 rfl (one1 rfl (one1 rfl (one1 rfl (one1 rfl (one1 rfl one0)))))))) ?_
     intro w342 hI343 x344
     refine Reg.nilS (L0 := [(3, _), (4, _), (25, _)]) (Sub.cons rfl (Sub.cons rfl (Sub.cons rfl (Sub.nil _)))) (hQ_ 6 _ _ _ rfl (.inl rfl) rfl (fun w_ e_ => ?_))
     exact ⟨hI343.ext e_, ((Adv.of_ext ex_).trans x344).trans (Adv.of_ext e_)⟩
   ·skip
    intro w345 ex_
    have hI346 := (Hp.start (Mu := []) hI37.mlt).ext ex_
    refine .inr ⟨List.cons_ne_nil _ _, [10, 13, 16], by kernel_rfl, AllL.cons ?_ (AllL.cons ?_ (AllL.cons ?_ (AllL.nil)))⟩
    ·skip
     refine ⟨_, rfl, fun Q_ hQ_ => ?_⟩
     refine Reg.pass rfl rfl rfl rfl ?_
     refine Reg.nilS (L0 := [(4, _), (16, _), (25, _)]) (Sub.cons rfl (Sub.cons rfl (Sub.cons rfl (Sub.nil _)))) (hQ_ 5 _ _ _ rfl (.inr hI346.kp) rfl (fun w_ e_ => ?_))
     exact ex_.trans e_
    ·skip
     refine ⟨_, rfl, fun Q_ hQ_ => ?_⟩
     refine Reg.pass rfl rfl rfl rfl ?_
     refine Reg.nilS (L0 := [(4, _), (6, _), (16, _), (25, _)]) (Sub.cons rfl (Sub.cons rfl (Sub.cons rfl (Sub.cons rfl (Sub.nil _))))) (hQ_ 7 _ _ _ rfl (.inr hI346.kp) rfl (fun w_ e_ => ?_))
     exact ex_.trans e_
    ·skip
     refine ⟨_, rfl, fun Q_ hQ_ => ?_⟩
     have hI347 := hI37.join hI346
     refine y_st 0 hI347 rfl rfl rfl rfl Tryd.sizeOf61 rfl rfl (one1 rfl (one1 rfl (one1 rfl (one1 rfl (one1 rfl (one1 rfl (one1 rfl (one1 rfl one0)))))))) ?_
     intro w348 hI349 x350
     refine Reg.nilS (L0 := [(4, _), (6, _), (25, _)]) (Sub.cons rfl (Sub.cons rfl (Sub.cons rfl (Sub.nil _)))) (hQ_ 8 _ _ _ rfl (.inl rfl) rfl (fun w_ e_ => ?_))
     exact ⟨hI349.ext e_, ((Adv.of_ext ex_).trans x350).trans (Adv.of_ext e_)⟩
   ·skip
    rintro w351 ⟨hI352, hA_⟩
    refine .inr ⟨List.cons_ne_nil _ _, [10, 12], by kernel_rfl, AllL.cons ?_ (AllL.cons ?_ (AllL.nil))⟩
    ·skip
     refine ⟨_, rfl, fun Q_ hQ_ => ?_⟩
     refine Reg.pass rfl rfl rfl rfl ?_
     refine Reg.nilS (L0 := [(3, _), (4, _), (25, _)]) (Sub.cons rfl (Sub.cons rfl (Sub.cons rfl (Sub.nil _)))) (hQ_ 6 _ _ _ rfl (.inl rfl) rfl (fun w_ e_ => ?_))
     exact ⟨hI352.ext e_, hA_.trans (Adv.of_ext e_)⟩
    ·skip
     refine ⟨_, rfl, fun Q_ hQ_ => ?_⟩
     refine Reg.pass rfl rfl rfl rfl ?_
     refine Reg.nilS (L0 := [(4, _), (6, _), (25, _)]) (Sub.cons rfl (Sub.cons rfl (Sub.cons rfl (Sub.nil _)))) (hQ_ 8 _ _ _ rfl (.inl rfl) rfl (fun w_ e_ => ?_))
     exact ⟨hI352.ext e_, hA_.trans (Adv.of_ext e_)⟩
   ·skip
    intro w353 ex_
    have hI354 := (Hp.start (Mu := []) hI37.mlt).ext ex_
    refine .inr ⟨List.cons_ne_nil _ _, [12, 16], by kernel_rfl, AllL.cons ?_ (AllL.cons ?_ (AllL.nil))⟩
    ·skip
     refine ⟨_, rfl, fun Q_ hQ_ => ?_⟩
     refine Reg.pass rfl rfl rfl rfl ?_
     refine Reg.nilS (L0 := [(4, _), (16, _), (25, _)]) (Sub.cons rfl (Sub.cons rfl (Sub.cons rfl (Sub.nil _)))) (hQ_ 9 _ _ _ rfl (.inr hI354.kp) rfl (fun w_ e_ => ?_))
     exact ex_.trans e_
    ·skip
     refine ⟨_, rfl, fun Q_ hQ_ => ?_⟩
     have hI355 := hI37.join hI354
     refine y_st 0 hI355 rfl rfl rfl rfl Tryd.sizeOf61 rfl rfl (one1 rfl (one1 rfl (one1 rfl (one1 rfl (one1 rfl (one1 rfl (one1 rfl (one1 rfl one0)))))))) ?_
     intro w356 hI357 x358
     refine Reg.nilS (L0 := [(3, _), (4, _), (25, _)]) (Sub.cons rfl (Sub.cons rfl (Sub.cons rfl (Sub.nil _)))) (hQ_ 10 _ _ _ rfl (.inl rfl) rfl (fun w_ e_ => ?_))
     exact ⟨hI357.ext e_, ((Adv.of_ext ex_).trans x358).trans (Adv.of_ext e_)⟩
   ·skip
    intro w359 ex_
    have hI360 := (Hp.start (Mu := []) hI37.mlt).ext ex_
    refine .inr ⟨List.cons_ne_nil _ _, [11, 13, 16], by kernel_rfl, AllL.cons ?_ (AllL.cons ?_ (AllL.cons ?_ (AllL.nil)))⟩
    ·skip
     refine ⟨_, rfl, fun Q_ hQ_ => ?_⟩
     refine Reg.pass rfl rfl rfl rfl ?_
     refine Reg.nilS (L0 := [(4, _), (16, _), (25, _)]) (Sub.cons rfl (Sub.cons rfl (Sub.cons rfl (Sub.nil _)))) (hQ_ 9 _ _ _ rfl (.inr hI360.kp) rfl (fun w_ e_ => ?_))
     exact ex_.trans e_
    ·skip
     refine ⟨_, rfl, fun Q_ hQ_ => ?_⟩
     refine Reg.pass rfl rfl rfl rfl ?_
     refine Reg.nilS (L0 := [(4, _), (16, _), (25, _)]) (Sub.cons rfl (Sub.cons rfl (Sub.cons rfl (Sub.nil _)))) (hQ_ 11 _ _ _ rfl (.inr hI360.kp) rfl (fun w_ e_ => ?_))
     exact ex_.trans e_
    ·skip
     refine ⟨_, rfl, fun Q_ hQ_ => ?_⟩
     have hI361 := hI37.join hI360
     refine y_st 0 hI361 rfl rfl rfl rfl Tryd.sizeOf61 rfl rfl (one1 rfl (one1 rfl (one1 rfl (one1 rfl (one1 rfl (one1 rfl (one1 rfl (one1 rfl one0)))))))) ?_
     intro w362 hI363 x364
     refine Reg.nilS (L0 := [(4, _), (25, _)]) (Sub.cons rfl (Sub.cons rfl (Sub.nil _))) (hQ_ 12 _ _ _ rfl (.inl rfl) rfl (fun w_ e_ => ?_))
     exact ⟨hI363.ext e_, ((Adv.of_ext ex_).trans x364).trans (Adv.of_ext e_)⟩
   ·skip
    rintro w365 ⟨hI366, hA_⟩
    refine .inr ⟨List.cons_ne_nil _ _, [11, 12], by kernel_rfl, AllL.cons ?_ (AllL.cons ?_ (AllL.nil))⟩
    ·skip
     refine ⟨_, rfl, fun Q_ hQ_ => ?_⟩
     refine Reg.pass rfl rfl rfl rfl ?_
     refine Reg.nilS (L0 := [(3, _), (4, _), (25, _)]) (Sub.cons rfl (Sub.cons rfl (Sub.cons rfl (Sub.nil _)))) (hQ_ 10 _ _ _ rfl (.inl rfl) rfl (fun w_ e_ => ?_))
     exact ⟨hI366.ext e_, hA_.trans (Adv.of_ext e_)⟩
    ·skip
     refine ⟨_, rfl, fun Q_ hQ_ => ?_⟩
     refine Reg.pass rfl rfl rfl rfl ?_
     refine Reg.nilS (L0 := [(4, _), (25, _)]) (Sub.cons rfl (Sub.cons rfl (Sub.nil _))) (hQ_ 12 _ _ _ rfl (.inl rfl) rfl (fun w_ e_ => ?_))
     exact ⟨hI366.ext e_, hA_.trans (Adv.of_ext e_)⟩
   ·skip
    intro w367 ex_
    have hI368 := (Hp.start (Mu := []) hI37.mlt).ext ex_
    refine .inr ⟨List.cons_ne_nil _ _, [10, 16], by kernel_rfl, AllL.cons ?_ (AllL.cons ?_ (AllL.nil))⟩
    ·skip
     refine ⟨_, rfl, fun Q_ hQ_ => ?_⟩
     refine Reg.pass rfl rfl rfl rfl ?_
     refine Reg.nilS (L0 := [(4, _), (16, _), (25, _)]) (Sub.cons rfl (Sub.cons rfl (Sub.cons rfl (Sub.nil _)))) (hQ_ 11 _ _ _ rfl (.inr hI368.kp) rfl (fun w_ e_ => ?_))
     exact ex_.trans e_
    ·skip
     refine ⟨_, rfl, fun Q_ hQ_ => ?_⟩
     have hI369 := hI37.join hI368
     refine y_st 0 hI369 rfl rfl rfl rfl Tryd.sizeOf61 rfl rfl (one1 rfl (one1 rfl (one1 rfl (one1 rfl (one1 rfl (one1 rfl (one1 rfl (one1 rfl one0)))))))) ?_
     intro w370 hI371 x372
     refine Reg.nilS (L0 := [(4, _), (6, _), (25, _)]) (Sub.cons rfl (Sub.cons rfl (Sub.cons rfl (Sub.nil _)))) (hQ_ 13 _ _ _ rfl (.inl rfl) rfl (fun w_ e_ => ?_))
     exact ⟨hI371.ext e_, ((Adv.of_ext ex_).trans x372).trans (Adv.of_ext e_)⟩
   ·skip
    rintro w373 ⟨hI374, hA_⟩
    refine .inr ⟨List.cons_ne_nil _ _, [10, 13], by kernel_rfl, AllL.cons ?_ (AllL.cons ?_ (AllL.nil))⟩
    ·skip
     refine ⟨_, rfl, fun Q_ hQ_ => ?_⟩
     refine Reg.pass rfl rfl rfl rfl ?_
     refine Reg.nilS (L0 := [(4, _), (25, _)]) (Sub.cons rfl (Sub.cons rfl (Sub.nil _))) (hQ_ 12 _ _ _ rfl (.inl rfl) rfl (fun w_ e_ => ?_))
     exact ⟨hI374.ext e_, hA_.trans (Adv.of_ext e_)⟩
    ·skip
     refine ⟨_, rfl, fun Q_ hQ_ => ?_⟩
     refine Reg.pass rfl rfl rfl rfl ?_
     refine Reg.nilS (L0 := [(4, _), (6, _), (25, _)]) (Sub.cons rfl (Sub.cons rfl (Sub.cons rfl (Sub.nil _)))) (hQ_ 13 _ _ _ rfl (.inl rfl) rfl (fun w_ e_ => ?_))
     exact ⟨hI374.ext e_, hA_.trans (Adv.of_ext e_)⟩
   ·skip
    intro w375 ex_
    have hI376 := (Hp.start (Mu := []) hI37.mlt).ext ex_
    refine .inr ⟨List.cons_ne_nil _ _, [13, 16], by kernel_rfl, AllL.cons ?_ (AllL.cons ?_ (AllL.nil))⟩
    ·skip
     refine ⟨_, rfl, fun Q_ hQ_ => ?_⟩
     refine Reg.pass rfl rfl rfl rfl ?_
     refine Reg.nilS (L0 := [(4, _), (16, _), (25, _)]) (Sub.cons rfl (Sub.cons rfl (Sub.cons rfl (Sub.nil _)))) (hQ_ 14 _ _ _ rfl (.inr hI376.kp) rfl (fun w_ e_ => ?_))
     exact ex_.trans e_
    ·skip
     refine ⟨_, rfl, fun Q_ hQ_ => ?_⟩
     have hI377 := hI37.join hI376
     refine y_st 0 hI377 rfl rfl rfl rfl Tryd.sizeOf61 rfl rfl (one1 rfl (one1 rfl (one1 rfl (one1 rfl (one1 rfl (one1 rfl (one1 rfl (one1 rfl one0)))))))) ?_
     intro w378 hI379 x380
     refine Reg.nilS (L0 := [(4, _), (25, _)]) (Sub.cons rfl (Sub.cons rfl (Sub.nil _))) (hQ_ 15 _ _ _ rfl (.inl rfl) rfl (fun w_ e_ => ?_))
     exact ⟨hI379.ext e_, ((Adv.of_ext ex_).trans x380).trans (Adv.of_ext e_)⟩
   ·skip
    rintro w381 ⟨hI382, hA_⟩
    refine .inr ⟨List.cons_ne_nil _ _, [12], by kernel_rfl, AllL.cons ?_ (AllL.nil)⟩
    ·skip
     refine ⟨_, rfl, fun Q_ hQ_ => ?_⟩
     refine Reg.pass rfl rfl rfl rfl ?_
     refine Reg.nilS (L0 := [(4, _), (25, _)]) (Sub.cons rfl (Sub.cons rfl (Sub.nil _))) (hQ_ 15 _ _ _ rfl (.inl rfl) rfl (fun w_ e_ => ?_))
     exact ⟨hI382.ext e_, hA_.trans (Adv.of_ext e_)⟩
   ·skip
    intro w383 ex_
    have hI384 := (Hp.start (Mu := []) hI37.mlt).ext ex_
    refine .inr ⟨List.cons_ne_nil _ _, [11, 16], by kernel_rfl, AllL.cons ?_ (AllL.cons ?_ (AllL.nil))⟩
    ·skip
     refine ⟨_, rfl, fun Q_ hQ_ => ?_⟩
     refine Reg.pass rfl rfl rfl rfl ?_
     refine Reg.nilS (L0 := [(4, _), (16, _), (25, _)]) (Sub.cons rfl (Sub.cons rfl (Sub.cons rfl (Sub.nil _)))) (hQ_ 14 _ _ _ rfl (.inr hI384.kp) rfl (fun w_ e_ => ?_))
     exact ex_.trans e_
    ·skip
     refine ⟨_, rfl, fun Q_ hQ_ => ?_⟩
     have hI385 := hI37.join hI384
     refine y_st 0 hI385 rfl rfl rfl rfl Tryd.sizeOf61 rfl rfl (one1 rfl (one1 rfl (one1 rfl (one1 rfl (one1 rfl (one1 rfl (one1 rfl (one1 rfl one0)))))))) ?_
     intro w386 hI387 x388
     refine Reg.nilS (L0 := [(4, _), (25, _)]) (Sub.cons rfl (Sub.cons rfl (Sub.nil _))) (hQ_ 16 _ _ _ rfl (.inl rfl) rfl (fun w_ e_ => ?_))
     exact ⟨hI387.ext e_, ((Adv.of_ext ex_).trans x388).trans (Adv.of_ext e_)⟩
   ·skip
    rintro w389 ⟨hI390, hA_⟩
    refine .inr ⟨List.cons_ne_nil _ _, [11, 13], by kernel_rfl, AllL.cons ?_ (AllL.cons ?_ (AllL.nil))⟩
    ·skip
     refine ⟨_, rfl, fun Q_ hQ_ => ?_⟩
     refine Reg.pass rfl rfl rfl rfl ?_
     refine Reg.nilS (L0 := [(4, _), (25, _)]) (Sub.cons rfl (Sub.cons rfl (Sub.nil _))) (hQ_ 15 _ _ _ rfl (.inl rfl) rfl (fun w_ e_ => ?_))
     exact ⟨hI390.ext e_, hA_.trans (Adv.of_ext e_)⟩
    ·skip
     refine ⟨_, rfl, fun Q_ hQ_ => ?_⟩
     refine Reg.pass rfl rfl rfl rfl ?_
     refine Reg.nilS (L0 := [(4, _), (25, _)]) (Sub.cons rfl (Sub.cons rfl (Sub.nil _))) (hQ_ 16 _ _ _ rfl (.inl rfl) rfl (fun w_ e_ => ?_))
     exact ⟨hI390.ext e_, hA_.trans (Adv.of_ext e_)⟩
   ·skip
    rintro w391 ⟨hI392, hA_⟩
    refine .inr ⟨List.cons_ne_nil _ _, [10], by kernel_rfl, AllL.cons ?_ (AllL.nil)⟩
    ·skip
     refine ⟨_, rfl, fun Q_ hQ_ => ?_⟩
     refine Reg.pass rfl rfl rfl rfl ?_
     refine Reg.nilS (L0 := [(4, _), (25, _)]) (Sub.cons rfl (Sub.cons rfl (Sub.nil _))) (hQ_ 16 _ _ _ rfl (.inl rfl) rfl (fun w_ e_ => ?_))
     exact ⟨hI392.ext e_, hA_.trans (Adv.of_ext e_)⟩
   ·skip
    intro w393 ex_
    have hI394 := (Hp.start (Mu := []) hI37.mlt).ext ex_
    refine .inr ⟨List.cons_ne_nil _ _, [14, 16], by kernel_rfl, AllL.cons ?_ (AllL.cons ?_ (AllL.nil))⟩
    ·skip
     refine ⟨_, rfl, fun Q_ hQ_ => ?_⟩
     refine Reg.pass rfl rfl rfl rfl ?_
     refine Reg.nilS (L0 := [(4, _), (16, _), (25, _)]) (Sub.cons rfl (Sub.cons rfl (Sub.cons rfl (Sub.nil _)))) (hQ_ 17 _ _ _ rfl (.inr hI394.kp) rfl (fun w_ e_ => ?_))
     exact ex_.trans e_
    ·skip
     refine ⟨_, rfl, fun Q_ hQ_ => ?_⟩
     have hI395 := hI37.join hI394
     refine y_st 0 hI395 rfl rfl rfl rfl Tryd.sizeOf61 rfl rfl (one1 rfl (one1 rfl (one1 rfl (one1 rfl (one1 rfl (one1 rfl (one1 rfl (one1 rfl one0)))))))) ?_
     intro w396 hI397 x398
     refine Reg.nilS (L0 := [(4, _), (25, _)]) (Sub.cons rfl (Sub.cons rfl (Sub.nil _))) (hQ_ 18 _ _ _ rfl (.inl rfl) rfl (fun w_ e_ => ?_))
     exact ⟨hI397.ext e_, ((Adv.of_ext ex_).trans x398).trans (Adv.of_ext e_)⟩
   ·skip
    rintro w399 ⟨hI400, hA_⟩
    refine .inr ⟨List.cons_ne_nil _ _, [13], by kernel_rfl, AllL.cons ?_ (AllL.nil)⟩
    ·skip
     refine ⟨_, rfl, fun Q_ hQ_ => ?_⟩
     refine Reg.pass rfl rfl rfl rfl ?_
     refine Reg.nilS (L0 := [(4, _), (25, _)]) (Sub.cons rfl (Sub.cons rfl (Sub.nil _))) (hQ_ 18 _ _ _ rfl (.inl rfl) rfl (fun w_ e_ => ?_))
     exact ⟨hI400.ext e_, hA_.trans (Adv.of_ext e_)⟩
   ·skip
    rintro w401 ⟨hI402, hA_⟩
    refine .inr ⟨List.cons_ne_nil _ _, [11], by kernel_rfl, AllL.cons ?_ (AllL.nil)⟩
    ·skip
     refine ⟨_, rfl, fun Q_ hQ_ => ?_⟩
     refine Reg.pass rfl rfl rfl rfl ?_
     refine Reg.nilS (L0 := [(4, _), (25, _)]) (Sub.cons rfl (Sub.cons rfl (Sub.nil _))) (hQ_ 18 _ _ _ rfl (.inl rfl) rfl (fun w_ e_ => ?_))
     exact ⟨hI402.ext e_, hA_.trans (Adv.of_ext e_)⟩
   ·skip
    intro w403 ex_
    have hI404 := (Hp.start (Mu := []) hI37.mlt).ext ex_
    refine .inr ⟨List.cons_ne_nil _ _, [15, 16], by kernel_rfl, AllL.cons ?_ (AllL.cons ?_ (AllL.nil))⟩
    ·skip
     refine ⟨_, rfl, fun Q_ hQ_ => ?_⟩
     refine s_pkF rfl rfl rfl ?_
     refine Reg.nilS (L0 := [(4, _), (16, _), (31, _)]) (Sub.cons rfl (Sub.cons rfl (Sub.cons rfl (Sub.nil _)))) (hQ_ 19 _ _ _ rfl (.inr hI404.kp) rfl (fun w_ e_ => ?_))
     exact ex_.trans e_
    ·skip
     refine ⟨_, rfl, fun Q_ hQ_ => ?_⟩
     have hI405 := hI37.join hI404
     refine y_st 0 hI405 rfl rfl rfl rfl Tryd.sizeOf61 rfl rfl (one1 rfl (one1 rfl (one1 rfl (one1 rfl (one1 rfl (one1 rfl (one1 rfl (one1 rfl one0)))))))) ?_
     intro w406 hI407 x408
     refine Reg.nilS (L0 := [(4, _), (25, _)]) (Sub.cons rfl (Sub.cons rfl (Sub.nil _))) (hQ_ 20 _ _ _ rfl (.inl rfl) rfl (fun w_ e_ => ?_))
     exact ⟨hI407.ext e_, ((Adv.of_ext ex_).trans x408).trans (Adv.of_ext e_)⟩
   ·skip
    rintro w409 ⟨hI410, hA_⟩
    refine .inr ⟨List.cons_ne_nil _ _, [14], by kernel_rfl, AllL.cons ?_ (AllL.nil)⟩
    ·skip
     refine ⟨_, rfl, fun Q_ hQ_ => ?_⟩
     refine Reg.pass rfl rfl rfl rfl ?_
     refine Reg.nilS (L0 := [(4, _), (25, _)]) (Sub.cons rfl (Sub.cons rfl (Sub.nil _))) (hQ_ 20 _ _ _ rfl (.inl rfl) rfl (fun w_ e_ => ?_))
     exact ⟨hI410.ext e_, hA_.trans (Adv.of_ext e_)⟩
   ·skip
    intro w411 ex_
    have hI412 := (Hp.start (Mu := []) hI37.mlt).ext ex_
    refine .inr ⟨List.cons_ne_nil _ _, [16], by kernel_rfl, AllL.cons ?_ (AllL.nil)⟩
    ·skip
     refine ⟨_, rfl, fun Q_ hQ_ => ?_⟩
     have hI413 := hI37.join hI412
     refine y_st 0 hI413 rfl rfl rfl rfl Tryd.sizeOf61 rfl rfl (one1 rfl (one1 rfl (one1 rfl (one1 rfl (one1 rfl (one1 rfl (one1 rfl (one1 rfl one0)))))))) ?_
     intro w414 hI415 x416
     refine Reg.nilS (L0 := [(4, _), (31, _)]) (Sub.cons rfl (Sub.cons rfl (Sub.nil _))) (hQ_ 21 _ _ _ rfl (.inl rfl) rfl (fun w_ e_ => ?_))
     exact ⟨hI415.ext e_, ((Adv.of_ext ex_).trans x416).trans (Adv.of_ext e_)⟩
   ·skip
    rintro w417 ⟨hI418, hA_⟩
    refine .inr ⟨List.cons_ne_nil _ _, [15], by kernel_rfl, AllL.cons ?_ (AllL.nil)⟩
    ·skip
     refine ⟨_, rfl, fun Q_ hQ_ => ?_⟩
     refine s_pkF rfl rfl rfl ?_
     refine Reg.nilS (L0 := [(4, _), (31, _)]) (Sub.cons rfl (Sub.cons rfl (Sub.nil _))) (hQ_ 21 _ _ _ rfl (.inl rfl) rfl (fun w_ e_ => ?_))
     exact ⟨hI418.ext e_, hA_.trans (Adv.of_ext e_)⟩
   ·skip
    rintro w419 ⟨hI420, hA_⟩
    refine .inr ⟨List.cons_ne_nil _ _, [17], by kernel_rfl, AllL.cons ?_ (AllL.nil)⟩
    ·skip
     refine ⟨_, rfl, fun Q_ hQ_ => ?_⟩
     refine s_as rfl rfl ?_
     refine Reg.nilS (L0 := [(4, _), (5, _)]) (Sub.cons rfl (Sub.cons rfl (Sub.nil _))) (hQ_ 22 _ _ _ rfl (.inl rfl) rfl (fun w_ e_ => ?_))
     exact ⟨hI420.ext e_, hA_.trans (Adv.of_ext e_)⟩
   ·skip
    rintro w421 ⟨hI422, hA_⟩
    refine .inl ⟨rfl, ?_⟩
    obtain rfl := Option.some.inj h40
    refine ⟨rfl, (false, y17.id, y17.source, y17.account, y17.made, y17.about, y17.kind, y17.cents, y17.of_), ⟨hI422, hA_, r22, r23, r24, r25, r26, r27, r28, r29, rfl⟩, Sub.cons rfl (Sub.cons rfl (Sub.nil _))⟩
 ·skip
  rintro ⟨x41, x42, x44, x46, x48, x50, x52, x54, x56⟩ w58 ⟨hI59, hA60, r43, r45, r47, r49, r51, r53, r55, r57, rfl⟩
  refine cw_ret ?_
  obtain ⟨rfl, rfl⟩ := inj2 h
  refine fin_any Tryd.results42 (AllRs.cons (RsOk.agg rfl (hI59.row 0 rfl).rd.cells Tryd.isAgg61 rfl Tryd.sizeOf61) (AllRs.cons (RsOk.tmp rfl) (AllRs.nil))) rfl ?_
  exact ⟨rfl, r43, r45, r47, r49, r51, r53, r55, r57, hI59.kp⟩
noncomputable def P.account_desk_away (d : Desk) (id : Int) : Option Bool :=
 Option.bind (some ((d.gone id).getD 0)) fun y7 => some ((d.gone id).isSome)
theorem C_account_desk_away {M : List Nat} {w : World} (hM : MLt M w) {d : Desk} {v_d_0 : Value} {v_d_1 : Value} {v_d_2 : Value} (f_d_0 : RdF Ky3 ReportE true M w v_d_0 d.store.reports) (f_d_1 : RdF Ky3 (intE .i64) false M w v_d_1 d.gone) (f_d_2 : RdF Ky3 (intE .i64) false M w v_d_2 d.fixed) {id : Int} (f_id_0 : InK .i64 id) {r0 : Bool} (h : P.account_desk_away d id = some r0) :
  Calls Tryd.prog 70 (List.toArray [Value.agg (List.toArray [v_d_0, v_d_1, v_d_2]), Value.int .i64 id]) w fun e w' => e = .returned (Value.bool r0) ∧ Ext w w' := by
 have hI := Hp.start (Mu := []) hM
 refine calls_cw Tryd.func70 rfl Tryd.ntmps70 rfl ?_
 refine cw_seq (cw_regF ?_)
 refine y_box hI rfl rfl rfl ?_
 intro b1 w2 hI3 x4
 have hC6 := hI3.freezeRow 0 rfl
 have hI5 := hI3.erase 0
 refine s_as rfl rfl ?_
 refine Reg.nil ?_
 refine cw_seq (cw_regF ?_)
 refine s_fa rfl Tryd.underlying92 rfl Tryd.sizeOf79 rfl ?_
 refine s_ld rfl (hC6.cells.at 1 rfl) Tryd.isAgg79 rfl ?_
 refine s_mv rfl rfl ?_
 obtain ⟨y7, hy7, h⟩ := bnd h
 refine s_lkF (a := id) (z0 := 0) (f_d_1.adv hI5.adv) rfl rfl (show InK .i64 id from f_id_0) Tryd.underlying79 Tryd.zeroValue3 ⟨_, ⟨rfl, (by decide)⟩, .inr ⟨rfl, rfl⟩⟩ rfl ?_
 intro v8 hv9
 rw [Option.some.inj hy7] at hv9
 have hR10 := Vl.one1 hv9
 obtain ⟨r11', r11⟩ := hR10
 obtain rfl := one_inj r11'
 refine s_mv rfl rfl ?_
 refine s_xt rfl rfl rfl ?_
 refine s_xt rfl rfl rfl ?_
 refine s_as rfl rfl ?_
 refine s_as rfl rfl ?_
 refine Reg.nil ?_
 refine cw_seq (cw_regF ?_)
 refine s_mv rfl rfl ?_
 refine s_as rfl rfl ?_
 refine Reg.nil ?_
 refine cw_ret ?_
 obtain rfl := Option.some.inj h
 refine fin1 Tryd.results70 rfl ?_
 exact ⟨rfl, hI5.kp⟩
noncomputable def P.slices_IndexFunc_58 (s : (List Report)) (f : Report → Option Bool) : Option Int :=
 Option.bind (loopM (S := Int) (R := (Unit) ⊕ (Int)) (fun x1 => cond (decide (x1 < (s.length : Int))) (Option.bind (ixo s x1) fun y3 => Option.bind (f y3) fun z17 => cond z17 (some (.inr (.inr x1))) (Option.bind (chk .i64 (x1 + 1)) fun n23 => some (.inl n23))) (some (.inr (.inl ())))) 0) fun j24 => Sum.elim (fun _ => some (-1)) (fun r25 => some r25)  j24
theorem C_slices_IndexFunc_58 {M : List Nat} {w : World} (hM : MLt M w) {s : (List Report)} {v_s_0 : Value} (f_s_0 : RdS ReportE M w v_s_0 s) {v_f : Value} {f : Report → Option Bool} (f_f : ∀ (x0 : Report) (r : Bool) (w1 : World), Kp [] w w1 → InK .i64 x0.id → InK .i64 x0.source → InK .i64 x0.account → InK .i64 x0.made → InK .i64 x0.about → InK IntKind.u8 x0.kind → InK .i64 x0.cents → InK .i64 x0.of_ → f x0 = some r → CallsV Tryd.prog v_f [Value.agg (List.toArray [Value.int .i64 x0.id, Value.int .i64 x0.source, Value.int .i64 x0.account, Value.int .i64 x0.made, Value.int .i64 x0.about, Value.int IntKind.u8 x0.kind, Value.int .i64 x0.cents, Value.int .i64 x0.of_])] w1 fun e w2 => e = .returned (Value.bool r) ∧ Ext w1 w2) {r0 : Int} (h : P.slices_IndexFunc_58 s f = some r0) :
  Calls Tryd.prog 58 (List.toArray [v_s_0, v_f]) w fun e w' => e = .returned (Value.int .i64 r0) ∧ InK .i64 r0 ∧ Ext w w' := by
 have hI := Hp.start (Mu := []) hM
 refine calls_cw Tryd.func58 rfl Tryd.ntmps58 rfl ?_
 refine cw_seq (cw_regF ?_)
 refine s_as rfl rfl ?_
 refine Reg.nil ?_
 refine cw_seq (cw_seq (cw_regF ?_))
 refine s_mv rfl rfl ?_
 refine s_len rfl f_s_0 Tryd.underlying22 rfl ?_
 refine s_mv rfl rfl ?_
 refine Reg.nil ?_
 obtain ⟨j1, h2, h⟩ := bnd h
 refine cw_sub (L := [(0, _), (1, _), (7, _), (8, _)]) (Sub.cons rfl (Sub.cons rfl (Sub.cons rfl (Sub.cons rfl (Sub.nil _))))) ?_
 refine cw_unitD 4 (ι := Unit) (fun _ => []) (fun _ => fun w3 => Hp w [] M [] w3 ∧ Adv (mm [] M) (mm [] M) w w3 ∧ (.inl ()) = j1) ?_ ?_
 ·skip
  refine cw_block ?_
  refine cw_sub (L := [(8, _), (0, _), (1, _), (7, _)]) (Sub.cons rfl (Sub.cons rfl (Sub.cons rfl (Sub.cons rfl (Sub.nil _))))) ?_
  refine cw_loopM 1 (ι := Int) _ (fun x6 => [(8, Value.int .i64 x6)]) (fun x6 => x6) (fun x6 => fun w8 => Hp w [] M [] w8 ∧ Adv (mm [] M) (mm [] M) w w8 ∧ InK .i64 x6) 0 h2 ⟨hI, (Adv.refl _ _), (by decide)⟩ (Sub.cons rfl (Sub.cons rfl (Sub.cons rfl (Sub.cons rfl (Sub.nil _))))) ?_
  rintro x6 w8 ⟨hI9, hA10, r7⟩ y11 h12 hR13
  refine cw_seq (cw_regF ?_)
  refine s_lss rfl rfl rfl ?_
  refine Reg.nil ?_
  refine cw_seq ?_
  refine cw_cond rfl (fun hc14 => ?_) (fun hc14 => ?_)
  ·replace h12 := cdT hc14 h12
   refine cw_skip ?_
   refine cw_seq ?_
   refine cw_block ?_
   refine cw_seq (cw_regF ?_)
   refine s_mv rfl rfl ?_
   refine s_as rfl rfl ?_
   refine Reg.nil ?_
   refine cw_seq (cw_regF ?_)
   refine s_mv rfl rfl ?_
   refine s_mv rfl rfl ?_
   refine s_mv rfl rfl ?_
   obtain ⟨y15, hy15, h12⟩ := bnd h12
   refine p_ia rfl rfl (f_s_0.adv hI9.adv) hy15 Tryd.underlying22 Tryd.sizeOf61 rfl ?_
   intro b16 o17 cs18 hR19 hC20
   obtain ⟨rfl, r21, r22, r23, r24, r25, r26, r27, r28⟩ := ReportE_R.1 hR19
   refine s_lda rfl hC20.cells Tryd.isAgg61 rfl Tryd.sizeOf61 rfl ?_
   obtain ⟨z29, hz29, h12⟩ := bnd h12
   refine s_callV rfl rfl rfl ?_
   refine (f_f _ _ _ hI9.kp r21 r22 r23 r24 r25 r26 r27 r28 hz29).mono ?_
   rintro _ w30 ⟨rfl, e31⟩
   refine ⟨_, rfl, ?_⟩
   have hI33 := hI9.ext e31
   refine Reg.nil ?_
   refine cw_cond rfl (fun hc34 => ?_) (fun hc34 => ?_)
   ·replace h12 := cdT hc34 h12
    refine cw_seq (cw_regF ?_)
    refine s_mv rfl rfl ?_
    refine s_as rfl rfl ?_
    refine Reg.nil ?_
    refine cw_ret ?_
    obtain rfl := Option.some.inj h12
    obtain rfl := hR13 _ rfl
    replace h := elimR h
    obtain rfl := Option.some.inj h
    refine fin1 Tryd.results58 rfl ?_
    exact ⟨rfl, r7, hI33.kp⟩
   ·replace h12 := cdF hc34 h12
    refine cw_skip ?_
    refine cw_regF ?_
    obtain ⟨n35, hn35, h12⟩ := bnd h12
    replace hn35 := chk_out hn35
    refine p_add rfl rfl rfl hn35 ?_
    refine s_mv rfl rfl ?_
    refine Reg.nil ?_
    obtain rfl := Option.some.inj h12
    refine ⟨rfl, n35, ⟨⟨hI33, hI33.adv, hn35.2⟩, rfl⟩, Sub.cons rfl (Sub.cons rfl (Sub.cons rfl (Sub.cons rfl (Sub.nil _))))⟩
  ·replace h12 := cdF hc14 h12
   refine cw_exit ?_
   refine exB_same ?_
   obtain rfl := Option.some.inj h12
   obtain rfl := hR13 _ rfl
   refine ⟨rfl, (), ⟨hI9, hI9.adv, rfl⟩, Sub.nil _⟩
 ·skip
  rintro _ w3 ⟨hI4, hA5, rfl⟩
  replace h := elimL h
  refine cw_seq (cw_regF ?_)
  refine s_as rfl rfl ?_
  refine Reg.nil ?_
  refine cw_ret ?_
  obtain rfl := Option.some.inj h
  refine fin1 Tryd.results58 rfl ?_
  exact ⟨rfl, (by decide), hI4.kp⟩
noncomputable def P.slices_ContainsFunc_48 (s : (List Report)) (f : Report → Option Bool) : Option Bool :=
 Option.bind (P.slices_IndexFunc_58 s f) fun z1 => some (decide (0 ≤ z1))
theorem C_slices_ContainsFunc_48 {M : List Nat} {w : World} (hM : MLt M w) {s : (List Report)} {v_s_0 : Value} (f_s_0 : RdS ReportE M w v_s_0 s) {v_f : Value} {f : Report → Option Bool} (f_f : ∀ (x0 : Report) (r : Bool) (w1 : World), Kp [] w w1 → InK .i64 x0.id → InK .i64 x0.source → InK .i64 x0.account → InK .i64 x0.made → InK .i64 x0.about → InK IntKind.u8 x0.kind → InK .i64 x0.cents → InK .i64 x0.of_ → f x0 = some r → CallsV Tryd.prog v_f [Value.agg (List.toArray [Value.int .i64 x0.id, Value.int .i64 x0.source, Value.int .i64 x0.account, Value.int .i64 x0.made, Value.int .i64 x0.about, Value.int IntKind.u8 x0.kind, Value.int .i64 x0.cents, Value.int .i64 x0.of_])] w1 fun e w2 => e = .returned (Value.bool r) ∧ Ext w1 w2) {r0 : Bool} (h : P.slices_ContainsFunc_48 s f = some r0) :
  Calls Tryd.prog 48 (List.toArray [v_s_0, v_f]) w fun e w' => e = .returned (Value.bool r0) ∧ Ext w w' := by
 have hI := Hp.start (Mu := []) hM
 refine calls_cw Tryd.func48 rfl Tryd.ntmps48 rfl ?_
 refine cw_seq (cw_regF ?_)
 refine s_as rfl rfl ?_
 refine Reg.nil ?_
 refine cw_seq (cw_regF ?_)
 refine s_mv rfl rfl ?_
 refine s_mv rfl rfl ?_
 obtain ⟨z1, hz2, h⟩ := bnd h
 refine s_call rfl Tryd.call58 rfl ?_
 refine (C_slices_IndexFunc_58 hI.mlt f_s_0 (fun a0 r w9 e9 f0 f1 f2 f3 f4 f5 f6 f7 hr => f_f a0 r w9 (hI.kp.trans (Ext.kp e9)) f0 f1 f2 f3 f4 f5 f6 f7 hr) hz2).mono ?_
 rintro _ w3 ⟨rfl, r5, e4⟩
 refine ⟨_, rfl, ?_⟩
 have hI6 := hI.ext e4
 refine s_geq rfl rfl rfl ?_
 refine s_as rfl rfl ?_
 refine Reg.nil ?_
 refine cw_ret ?_
 obtain rfl := Option.some.inj h
 refine fin1 Tryd.results48 rfl ?_
 exact ⟨rfl, hI6.kp⟩
noncomputable def P.slices_IndexFunc_91 (s : (List Int)) (f : Int → Option Bool) : Option Int :=
 Option.bind (loopM (S := Int) (R := (Unit) ⊕ (Int)) (fun x1 => cond (decide (x1 < (s.length : Int))) (Option.bind (ixo s x1) fun y3 => Option.bind (f y3) fun z10 => cond z10 (some (.inr (.inr x1))) (Option.bind (chk .i64 (x1 + 1)) fun n16 => some (.inl n16))) (some (.inr (.inl ())))) 0) fun j17 => Sum.elim (fun _ => some (-1)) (fun r18 => some r18)  j17
theorem C_slices_IndexFunc_91 {M : List Nat} {w : World} (hM : MLt M w) {s : (List Int)} {v_s_0 : Value} (f_s_0 : RdS (intE .i64) M w v_s_0 s) {v_f : Value} {f : Int → Option Bool} (f_f : ∀ (x0 : Int) (r : Bool) (w1 : World), Kp [] w w1 → InK .i64 x0 → f x0 = some r → CallsV Tryd.prog v_f [Value.int .i64 x0] w1 fun e w2 => e = .returned (Value.bool r) ∧ Ext w1 w2) {r0 : Int} (h : P.slices_IndexFunc_91 s f = some r0) :
  Calls Tryd.prog 91 (List.toArray [v_s_0, v_f]) w fun e w' => e = .returned (Value.int .i64 r0) ∧ InK .i64 r0 ∧ Ext w w' := by
 have hI := Hp.start (Mu := []) hM
 refine calls_cw Tryd.func91 rfl Tryd.ntmps91 rfl ?_
 refine cw_seq (cw_regF ?_)
 refine s_as rfl rfl ?_
 refine Reg.nil ?_
 refine cw_seq (cw_seq (cw_regF ?_))
 refine s_mv rfl rfl ?_
 refine s_len rfl f_s_0 Tryd.underlying36 rfl ?_
 refine s_mv rfl rfl ?_
 refine Reg.nil ?_
 obtain ⟨j1, h2, h⟩ := bnd h
 refine cw_sub (L := [(0, _), (1, _), (7, _), (8, _)]) (Sub.cons rfl (Sub.cons rfl (Sub.cons rfl (Sub.cons rfl (Sub.nil _))))) ?_
 refine cw_unitD 4 (ι := Unit) (fun _ => []) (fun _ => fun w3 => Hp w [] M [] w3 ∧ Adv (mm [] M) (mm [] M) w w3 ∧ (.inl ()) = j1) ?_ ?_
 ·skip
  refine cw_block ?_
  refine cw_sub (L := [(8, _), (0, _), (1, _), (7, _)]) (Sub.cons rfl (Sub.cons rfl (Sub.cons rfl (Sub.cons rfl (Sub.nil _))))) ?_
  refine cw_loopM 1 (ι := Int) _ (fun x6 => [(8, Value.int .i64 x6)]) (fun x6 => x6) (fun x6 => fun w8 => Hp w [] M [] w8 ∧ Adv (mm [] M) (mm [] M) w w8 ∧ InK .i64 x6) 0 h2 ⟨hI, (Adv.refl _ _), (by decide)⟩ (Sub.cons rfl (Sub.cons rfl (Sub.cons rfl (Sub.cons rfl (Sub.nil _))))) ?_
  rintro x6 w8 ⟨hI9, hA10, r7⟩ y11 h12 hR13
  refine cw_seq (cw_regF ?_)
  refine s_lss rfl rfl rfl ?_
  refine Reg.nil ?_
  refine cw_seq ?_
  refine cw_cond rfl (fun hc14 => ?_) (fun hc14 => ?_)
  ·replace h12 := cdT hc14 h12
   refine cw_skip ?_
   refine cw_seq ?_
   refine cw_block ?_
   refine cw_seq (cw_regF ?_)
   refine s_mv rfl rfl ?_
   refine s_as rfl rfl ?_
   refine Reg.nil ?_
   refine cw_seq (cw_regF ?_)
   refine s_mv rfl rfl ?_
   refine s_mv rfl rfl ?_
   refine s_mv rfl rfl ?_
   obtain ⟨y15, hy15, h12⟩ := bnd h12
   refine p_ia rfl rfl (f_s_0.adv hI9.adv) hy15 Tryd.underlying36 Tryd.sizeOf3 rfl ?_
   intro b16 o17 cs18 hR19 hC20
   obtain ⟨rfl, r21⟩ := hR19
   refine s_ld rfl (hC20.cells.at 0 rfl) Tryd.isAgg3 rfl ?_
   obtain ⟨z22, hz22, h12⟩ := bnd h12
   refine s_callV rfl rfl rfl ?_
   refine (f_f _ _ _ hI9.kp r21 hz22).mono ?_
   rintro _ w23 ⟨rfl, e24⟩
   refine ⟨_, rfl, ?_⟩
   have hI26 := hI9.ext e24
   refine Reg.nil ?_
   refine cw_cond rfl (fun hc27 => ?_) (fun hc27 => ?_)
   ·replace h12 := cdT hc27 h12
    refine cw_seq (cw_regF ?_)
    refine s_mv rfl rfl ?_
    refine s_as rfl rfl ?_
    refine Reg.nil ?_
    refine cw_ret ?_
    obtain rfl := Option.some.inj h12
    obtain rfl := hR13 _ rfl
    replace h := elimR h
    obtain rfl := Option.some.inj h
    refine fin1 Tryd.results91 rfl ?_
    exact ⟨rfl, r7, hI26.kp⟩
   ·replace h12 := cdF hc27 h12
    refine cw_skip ?_
    refine cw_regF ?_
    obtain ⟨n28, hn28, h12⟩ := bnd h12
    replace hn28 := chk_out hn28
    refine p_add rfl rfl rfl hn28 ?_
    refine s_mv rfl rfl ?_
    refine Reg.nil ?_
    obtain rfl := Option.some.inj h12
    refine ⟨rfl, n28, ⟨⟨hI26, hI26.adv, hn28.2⟩, rfl⟩, Sub.cons rfl (Sub.cons rfl (Sub.cons rfl (Sub.cons rfl (Sub.nil _))))⟩
  ·replace h12 := cdF hc14 h12
   refine cw_exit ?_
   refine exB_same ?_
   obtain rfl := Option.some.inj h12
   obtain rfl := hR13 _ rfl
   refine ⟨rfl, (), ⟨hI9, hI9.adv, rfl⟩, Sub.nil _⟩
 ·skip
  rintro _ w3 ⟨hI4, hA5, rfl⟩
  replace h := elimL h
  refine cw_seq (cw_regF ?_)
  refine s_as rfl rfl ?_
  refine Reg.nil ?_
  refine cw_ret ?_
  obtain rfl := Option.some.inj h
  refine fin1 Tryd.results91 rfl ?_
  exact ⟨rfl, (by decide), hI4.kp⟩
noncomputable def P.slices_ContainsFunc_67 (s : (List Int)) (f : Int → Option Bool) : Option Bool :=
 Option.bind (P.slices_IndexFunc_91 s f) fun z1 => some (decide (0 ≤ z1))
theorem C_slices_ContainsFunc_67 {M : List Nat} {w : World} (hM : MLt M w) {s : (List Int)} {v_s_0 : Value} (f_s_0 : RdS (intE .i64) M w v_s_0 s) {v_f : Value} {f : Int → Option Bool} (f_f : ∀ (x0 : Int) (r : Bool) (w1 : World), Kp [] w w1 → InK .i64 x0 → f x0 = some r → CallsV Tryd.prog v_f [Value.int .i64 x0] w1 fun e w2 => e = .returned (Value.bool r) ∧ Ext w1 w2) {r0 : Bool} (h : P.slices_ContainsFunc_67 s f = some r0) :
  Calls Tryd.prog 67 (List.toArray [v_s_0, v_f]) w fun e w' => e = .returned (Value.bool r0) ∧ Ext w w' := by
 have hI := Hp.start (Mu := []) hM
 refine calls_cw Tryd.func67 rfl Tryd.ntmps67 rfl ?_
 refine cw_seq (cw_regF ?_)
 refine s_as rfl rfl ?_
 refine Reg.nil ?_
 refine cw_seq (cw_regF ?_)
 refine s_mv rfl rfl ?_
 refine s_mv rfl rfl ?_
 obtain ⟨z1, hz2, h⟩ := bnd h
 refine s_call rfl Tryd.call91 rfl ?_
 refine (C_slices_IndexFunc_91 hI.mlt f_s_0 (fun a0 r w9 e9 f0 hr => f_f a0 r w9 (hI.kp.trans (Ext.kp e9)) f0 hr) hz2).mono ?_
 rintro _ w3 ⟨rfl, r5, e4⟩
 refine ⟨_, rfl, ?_⟩
 have hI6 := hI.ext e4
 refine s_geq rfl rfl rfl ?_
 refine s_as rfl rfl ?_
 refine Reg.nil ?_
 refine cw_ret ?_
 obtain rfl := Option.some.inj h
 refine fin1 Tryd.results67 rfl ?_
 exact ⟨rfl, hI6.kp⟩
noncomputable def P.account_in_in1 (n : Int) (lo_c : Int) (hi_c : Int) : Option Bool :=
 Option.bind (cond (decide (n < lo_c)) (some true) (some (decide (hi_c < n)))) fun x2 => some x2
theorem C_account_in_in1 {M : List Nat} {w : World} (hM : MLt M w) {n : Int} (f_n_0 : InK .i64 n) {lo_c : Int} (f_lo_c_0 : InK .i64 lo_c) {b_lo_c : Nat} (c_lo_c : RdC M w b_lo_c 0 [Value.int .i64 lo_c]) {hi_c : Int} (f_hi_c_0 : InK .i64 hi_c) {b_hi_c : Nat} (c_hi_c : RdC M w b_hi_c 0 [Value.int .i64 hi_c]) {r0 : Bool} (h : P.account_in_in1 n lo_c hi_c = some r0) :
  Calls Tryd.prog 68 (List.toArray [Value.int .i64 n, Value.pointer (some ⟨b_lo_c, 0, none⟩), Value.pointer (some ⟨b_hi_c, 0, none⟩)]) w fun e w' => e = .returned (Value.bool r0) ∧ Ext w w' := by
 have hI := Hp.start (Mu := []) hM
 refine calls_cw Tryd.func68 rfl Tryd.ntmps68 rfl ?_
 refine cw_seq (cw_regF ?_)
 refine s_as rfl rfl ?_
 refine Reg.nil ?_
 obtain ⟨j1, h2, h⟩ := bnd h
 refine cw_sub (L := [(0, _), (1, _), (2, _)]) (Sub.cons rfl (Sub.cons rfl (Sub.cons rfl (Sub.nil _)))) ?_
 refine cw_seqD 3 (ι := Bool) (fun x3 => [(4, Value.bool x3)]) (fun x3 => fun w4 => w = w4 ∧ x3 = j1) ?_ ?_
 ·skip
  refine cw_regF ?_
  refine s_mv rfl rfl ?_
  refine s_ld rfl (c_lo_c.cells.at 0 rfl) Tryd.isAgg3 rfl ?_
  refine s_lss rfl rfl rfl ?_
  refine s_mv rfl rfl ?_
  refine Reg.gsplit (t := 8) rfl (fun hg7 => ?_) (fun hg7 => ?_)
  ·replace h2 := cdT hg7 h2
   refine Reg.pass rfl rfl rfl rfl ?_
   refine Reg.pass rfl rfl rfl rfl ?_
   refine Reg.pass rfl rfl rfl rfl ?_
   refine s_pkT rfl rfl rfl ?_
   refine s_as rfl rfl ?_
   refine Reg.nil ?_
   obtain rfl := Option.some.inj h2
   refine ⟨rfl, true, ⟨rfl, rfl⟩, Sub.cons rfl (Sub.nil _)⟩
  ·replace h2 := cdF hg7 h2
   refine Reg.take rfl rfl ?_
   refine s_mv rfl rfl ?_
   refine Reg.take rfl rfl ?_
   refine s_ld rfl (c_hi_c.cells.at 0 rfl) Tryd.isAgg3 rfl ?_
   refine Reg.take rfl rfl ?_
   refine s_gtr rfl rfl rfl ?_
   refine s_pkF rfl rfl rfl ?_
   refine s_as rfl rfl ?_
   refine Reg.nil ?_
   obtain rfl := Option.some.inj h2
   refine ⟨rfl, decide (hi_c < n), ⟨rfl, rfl⟩, Sub.cons rfl (Sub.nil _)⟩
 ·skip
  rintro x3 _ ⟨rfl, rfl⟩
  refine cw_ret ?_
  obtain rfl := Option.some.inj h
  refine fin1 Tryd.results68 rfl ?_
  exact ⟨rfl, hI.kp⟩
noncomputable def P.account_in (lo : Int) (hi : Int) (all : (List Int)) : Option Bool :=
 Option.bind (P.slices_ContainsFunc_67 all (fun x0_ => P.account_in_in1 x0_ lo hi)) fun z13 => some (!z13)
theorem C_account_in {M : List Nat} {w : World} (hM : MLt M w) {lo : Int} (f_lo_0 : InK .i64 lo) {hi : Int} (f_hi_0 : InK .i64 hi) {all : (List Int)} {v_all_0 : Value} (f_all_0 : RdS (intE .i64) M w v_all_0 all) {r0 : Bool} (h : P.account_in lo hi all = some r0) :
  Calls Tryd.prog 35 (List.toArray [Value.int .i64 lo, Value.int .i64 hi, v_all_0]) w fun e w' => e = .returned (Value.bool r0) ∧ Ext w w' := by
 have hI := Hp.start (Mu := []) hM
 refine calls_cw Tryd.func35 rfl Tryd.ntmps35 rfl ?_
 refine cw_seq (cw_regF ?_)
 refine y_box hI rfl rfl rfl ?_
 intro b1 w2 hI3 x4
 have hC6 := hI3.freezeRow 0 rfl
 have hI5 := hI3.erase 0
 refine y_box hI5 rfl rfl rfl ?_
 intro b7 w8 hI9 x10
 have hC12 := hI9.freezeRow 0 rfl
 have hI11 := hI9.erase 0
 refine s_as rfl rfl ?_
 refine Reg.nil ?_
 refine cw_seq (cw_regF ?_)
 refine s_mv rfl rfl ?_
 refine s_mf rfl rfl ?_
 obtain ⟨z13, hz14, h⟩ := bnd h
 refine s_call rfl Tryd.call67 rfl ?_
 refine (C_slices_ContainsFunc_67 hI11.mlt (f_all_0.adv hI11.adv) (fun a0 r w9 e9 f0 hr => CallsV.ofL Tryd.call68 rfl (C_account_in_in1 (hI11.mlt.ext e9) f0 f_lo_0 ((hC6.adv (x10.trans (Hp.eraseA (σ := [rowR 3 b7 [Value.int .i64 hi]]) 0))).adv (Adv.of_ext e9)) f_hi_0 (hC12.adv (Adv.of_ext e9)) hr)) hz14).mono ?_
 rintro _ w15 ⟨rfl, e16⟩
 refine ⟨_, rfl, ?_⟩
 have hI17 := hI11.ext e16
 refine s_not rfl rfl ?_
 refine s_as rfl rfl ?_
 refine Reg.nil ?_
 refine cw_ret ?_
 obtain rfl := Option.some.inj h
 refine fin1 Tryd.results35 rfl ?_
 exact ⟨rfl, hI17.kp⟩
noncomputable def P.account_fact (r : Report) : Option Bool :=
 some (decide (r.kind ≤ 7))
theorem C_account_fact {M : List Nat} {w : World} (hM : MLt M w) {r : Report} (f_r_0 : InK .i64 r.id) (f_r_1 : InK .i64 r.source) (f_r_2 : InK .i64 r.account) (f_r_3 : InK .i64 r.made) (f_r_4 : InK .i64 r.about) (f_r_5 : InK IntKind.u8 r.kind) (f_r_6 : InK .i64 r.cents) (f_r_7 : InK .i64 r.of_) {r0 : Bool} (h : P.account_fact r = some r0) :
  Calls Tryd.prog 43 (List.toArray [Value.agg (List.toArray [Value.int .i64 r.id, Value.int .i64 r.source, Value.int .i64 r.account, Value.int .i64 r.made, Value.int .i64 r.about, Value.int IntKind.u8 r.kind, Value.int .i64 r.cents, Value.int .i64 r.of_])]) w fun e w' => e = .returned (Value.bool r0) ∧ Ext w w' := by
 have hI := Hp.start (Mu := []) hM
 refine calls_cw Tryd.func43 rfl Tryd.ntmps43 rfl ?_
 refine cw_seq (cw_regF ?_)
 refine y_box hI rfl rfl rfl ?_
 intro b1 w2 hI3 x4
 have hC6 := hI3.freezeRow 0 rfl
 have hI5 := hI3.erase 0
 refine s_as rfl rfl ?_
 refine Reg.nil ?_
 refine cw_seq (cw_regF ?_)
 refine s_fa rfl Tryd.underlying61 rfl Tryd.sizeOf5 rfl ?_
 refine s_ld rfl (hC6.cells.at 5 rfl) Tryd.isAgg5 rfl ?_
 refine s_leq rfl rfl rfl ?_
 refine s_as rfl rfl ?_
 refine Reg.nil ?_
 refine cw_ret ?_
 obtain rfl := Option.some.inj h
 refine fin1 Tryd.results43 rfl ?_
 exact ⟨rfl, hI5.kp⟩
noncomputable def P.account_right (r : Report) : Option Bool :=
 Option.bind (Option.bind (chk .i64 r.kind) fun n7 => Option.bind (P.account_in 1 9 ([n7] : List Int)) fun z17 => cond (!z17) (some true) (Option.bind (P.account_in 0 999999 ([r.id, r.source, r.account, r.of_] : List Int)) fun z36 => cond (!z36) (some true) (Option.bind (P.account_in 0 100000 ([r.made, r.about] : List Int)) fun z55 => cond (!z55) (some true) (Option.bind (ixo glob0 r.kind) fun y65 => Option.bind (P.account_in 0 y65 ([r.cents] : List Int)) fun z76 => some (!z76))))) fun x85 => cond x85 (some false) (Option.bind (P.account_fact (Report.mk r.id r.source r.account r.made r.about r.kind r.cents r.of_)) fun z87 => cond z87 (some (decide (r.of_ = 0))) (Option.bind (cond (decide (r.kind = 9)) (some (!decide (r.about = 0))) (some false)) fun x94 => cond x94 (some false) (some (!decide (r.of_ = r.id)))))
theorem C_account_right {M : List Nat} {w : World} (hM : MLt M w) (hG : RdC M w 0 0 (glob0.map (Value.int .i64))) {r : Report} (f_r_0 : InK .i64 r.id) (f_r_1 : InK .i64 r.source) (f_r_2 : InK .i64 r.account) (f_r_3 : InK .i64 r.made) (f_r_4 : InK .i64 r.about) (f_r_5 : InK IntKind.u8 r.kind) (f_r_6 : InK .i64 r.cents) (f_r_7 : InK .i64 r.of_) {r0 : Bool} (h : P.account_right r = some r0) :
  Calls Tryd.prog 50 (List.toArray [Value.agg (List.toArray [Value.int .i64 r.id, Value.int .i64 r.source, Value.int .i64 r.account, Value.int .i64 r.made, Value.int .i64 r.about, Value.int IntKind.u8 r.kind, Value.int .i64 r.cents, Value.int .i64 r.of_])]) w fun e w' => e = .returned (Value.bool r0) ∧ Ext w w' := by
 have hI := Hp.start (Mu := []) hM
 refine calls_cw Tryd.func50 rfl Tryd.ntmps50 rfl ?_
 refine cw_seq (cw_regF ?_)
 refine y_box hI rfl rfl rfl ?_
 intro b1 w2 hI3 x4
 have hC6 := hI3.freezeRow 0 rfl
 have hI5 := hI3.erase 0
 refine s_as rfl rfl ?_
 refine Reg.nil ?_
 refine cw_seq ?_
 obtain ⟨j7, h8, h⟩ := bnd h
 refine cw_sub (L := [(1, _)]) (Sub.cons rfl (Sub.nil _)) ?_
 refine cw_seqD 0 (ι := Bool) (fun x9 => [(41, Value.bool x9)]) (fun x9 => fun w10 => Hp w [] M [] w10 ∧ Adv (mm [] M) (mm [] M) w2 w10 ∧ x9 = j7) ?_ ?_
 ·skip
  refine cw_regD [0, 1, 2, 3, 4, 5, 6, 7, 8, 9, 10, 11, 12, 13, 14, 15, 16, 17, 18, 19, 20, 21, 22, 23, 24, 25, 26, 27, 28, 29, 30, 31, 32, 33, 34, 35, 36, 37, 38] [] fol (by kernel_rfl) rfl rfl ?_
  refine s_fa rfl Tryd.underlying61 rfl Tryd.sizeOf5 rfl ?_
  refine s_ld rfl (hC6.cells.at 5 rfl) Tryd.isAgg5 rfl ?_
  obtain ⟨n13, hn13, h8⟩ := bnd h8
  replace hn13 := chk_out hn13
  refine p_cvt rfl Tryd.underlying5 Tryd.underlying3 rfl hn13 ?_
  refine Reg.rel (.p fun v w' => RdS (intE .i64) (mm [] M) w' v ([n13] : List Int)) [] rfl rfl rfl RSub.nil rfl (nodupB_spec rfl) ?_ (fun v w1 w2 e h => h.adv (Adv.of_ext e)) ?_
  ·intro w14 e15; simp only [relOut]; refine s_bs (E := (intE .i64)) (M := mm [] M) (Bb := 0) (xs := ([n13] : List Int)) sl36 rfl rfl (Cls.cons rfl Cls.nil) (Chs.cons ⟨rfl, hn13.2⟩ Chs.nil) (hI5.mlt.ext e15) (Nat.zero_le _) rfl rfl ?_; intro a16 w17 x18 _ h19 _; exact Reg.nil ⟨rfl, x18, _, rfl, h19, trivial⟩
  obtain ⟨z23, hz23, h8⟩ := bnd h8
  refine Reg.relC (.bool z23) [(6, _)] rfl rfl (RSub.cons rfl rfl RSub.nil) rfl (nodupB_spec rfl) ?_ ?_
  ·intro w24 e25; simp only [relOut]; intro u20 k21 s22; refine s_call rfl Tryd.call35 rfl ?_; refine (C_account_in (hI5.mlt.ext e25) (by decide) (by decide) k21 hz23).mono ?_; rintro _ w26 ⟨rfl, x27⟩; refine ⟨_, rfl, ?_⟩; exact Reg.nil ⟨rfl, x27, _, rfl, rfl, trivial⟩
  refine s_not rfl rfl ?_
  refine s_mv rfl rfl ?_
  refine Reg.gsplit (t := 9) rfl (fun hg29 => ?_) (fun hg29 => ?_)
  ·replace h8 := cdT hg29 h8
   refine Reg.pass rfl rfl rfl rfl ?_
   refine Reg.pass rfl rfl rfl rfl ?_
   refine Reg.pass rfl rfl rfl rfl ?_
   refine Reg.pass rfl rfl rfl rfl ?_
   refine Reg.pass rfl rfl rfl rfl ?_
   refine Reg.pass rfl rfl rfl rfl ?_
   refine Reg.pass rfl rfl rfl rfl ?_
   refine Reg.pass rfl rfl rfl rfl ?_
   refine Reg.pass rfl rfl rfl rfl ?_
   refine Reg.pass rfl rfl rfl rfl ?_
   refine Reg.pass rfl rfl rfl rfl ?_
   refine s_pkT rfl rfl rfl ?_
   refine s_mv rfl rfl ?_
   refine Reg.pass rfl rfl rfl rfl ?_
   refine Reg.pass rfl rfl rfl rfl ?_
   refine Reg.pass rfl rfl rfl rfl ?_
   refine Reg.pass rfl rfl rfl rfl ?_
   refine Reg.pass rfl rfl rfl rfl ?_
   refine Reg.pass rfl rfl rfl rfl ?_
   refine Reg.pass rfl rfl rfl rfl ?_
   refine s_pkT rfl rfl rfl ?_
   refine s_mv rfl rfl ?_
   refine Reg.pass rfl rfl rfl rfl ?_
   refine Reg.pass rfl rfl rfl rfl ?_
   refine Reg.pass rfl rfl rfl rfl ?_
   refine Reg.pass rfl rfl rfl rfl ?_
   refine Reg.pass rfl rfl rfl rfl ?_
   refine Reg.pass rfl rfl rfl rfl ?_
   refine Reg.pass rfl rfl rfl rfl ?_
   refine Reg.pass rfl rfl rfl rfl ?_
   refine Reg.pass rfl rfl rfl rfl ?_
   refine s_pkT rfl rfl rfl ?_
   refine Reg.nilF [] RSub.nil (nodupB_spec rfl) ?_
   intro w30 e31
   refine Reg.nil ?_
   have hI32 := hI5.ext e31
   obtain rfl := Option.some.inj h8
   refine ⟨rfl, true, ⟨hI32, (Adv.of_ext e31), rfl⟩, Sub.cons rfl (Sub.cons rfl (Sub.nil _))⟩
  ·replace h8 := cdF hg29 h8
   refine Reg.take rfl rfl ?_
   refine s_fa rfl Tryd.underlying61 rfl Tryd.sizeOf3 rfl ?_
   refine Reg.take rfl rfl ?_
   refine s_ld rfl (hC6.cells.at 0 rfl) Tryd.isAgg3 rfl ?_
   refine Reg.take rfl rfl ?_
   refine s_fa rfl Tryd.underlying61 rfl Tryd.sizeOf3 rfl ?_
   refine Reg.take rfl rfl ?_
   refine s_ld rfl (hC6.cells.at 1 rfl) Tryd.isAgg3 rfl ?_
   refine Reg.take rfl rfl ?_
   refine s_fa rfl Tryd.underlying61 rfl Tryd.sizeOf3 rfl ?_
   refine Reg.take rfl rfl ?_
   refine s_ld rfl (hC6.cells.at 2 rfl) Tryd.isAgg3 rfl ?_
   refine Reg.take rfl rfl ?_
   refine s_fa rfl Tryd.underlying61 rfl Tryd.sizeOf3 rfl ?_
   refine Reg.take rfl rfl ?_
   refine s_ld rfl (hC6.cells.at 7 rfl) Tryd.isAgg3 rfl ?_
   refine Reg.take rfl rfl ?_
   refine Reg.rel (.p fun v w' => RdS (intE .i64) (mm [] M) w' v ([r.id, r.source, r.account, r.of_] : List Int)) [] rfl rfl rfl RSub.nil rfl (nodupB_spec rfl) ?_ (fun v w1 w2 e h => h.adv (Adv.of_ext e)) ?_
   ·intro w33 e34; simp only [relOut]; refine s_bs (E := (intE .i64)) (M := mm [] M) (Bb := 0) (xs := ([r.id, r.source, r.account, r.of_] : List Int)) sl36 rfl rfl (Cls.cons rfl (Cls.cons rfl (Cls.cons rfl (Cls.cons rfl Cls.nil)))) (Chs.cons ⟨rfl, f_r_0⟩ (Chs.cons ⟨rfl, f_r_1⟩ (Chs.cons ⟨rfl, f_r_2⟩ (Chs.cons ⟨rfl, f_r_7⟩ Chs.nil)))) (hI5.mlt.ext e34) (Nat.zero_le _) rfl rfl ?_; intro a35 w36 x37 _ h38 _; exact Reg.nil ⟨rfl, x37, _, rfl, h38, trivial⟩
   refine Reg.take rfl rfl ?_
   obtain ⟨z42, hz42, h8⟩ := bnd h8
   refine Reg.relC (.bool z42) [(18, _)] rfl rfl (RSub.cons rfl rfl RSub.nil) rfl (nodupB_spec rfl) ?_ ?_
   ·intro w43 e44; simp only [relOut]; intro u39 k40 s41; refine s_call rfl Tryd.call35 rfl ?_; refine (C_account_in (hI5.mlt.ext e44) (by decide) (by decide) k40 hz42).mono ?_; rintro _ w45 ⟨rfl, x46⟩; refine ⟨_, rfl, ?_⟩; exact Reg.nil ⟨rfl, x46, _, rfl, rfl, trivial⟩
   refine Reg.take rfl rfl ?_
   refine s_not rfl rfl ?_
   refine s_pkF rfl rfl rfl ?_
   refine s_mv rfl rfl ?_
   refine Reg.gsplit (t := 22) rfl (fun hg48 => ?_) (fun hg48 => ?_)
   ·replace h8 := cdT hg48 h8
    refine Reg.pass rfl rfl rfl rfl ?_
    refine Reg.pass rfl rfl rfl rfl ?_
    refine Reg.pass rfl rfl rfl rfl ?_
    refine Reg.pass rfl rfl rfl rfl ?_
    refine Reg.pass rfl rfl rfl rfl ?_
    refine Reg.pass rfl rfl rfl rfl ?_
    refine Reg.pass rfl rfl rfl rfl ?_
    refine s_pkT rfl rfl rfl ?_
    refine s_mv rfl rfl ?_
    refine Reg.pass rfl rfl rfl rfl ?_
    refine Reg.pass rfl rfl rfl rfl ?_
    refine Reg.pass rfl rfl rfl rfl ?_
    refine Reg.pass rfl rfl rfl rfl ?_
    refine Reg.pass rfl rfl rfl rfl ?_
    refine Reg.pass rfl rfl rfl rfl ?_
    refine Reg.pass rfl rfl rfl rfl ?_
    refine Reg.pass rfl rfl rfl rfl ?_
    refine Reg.pass rfl rfl rfl rfl ?_
    refine s_pkT rfl rfl rfl ?_
    refine Reg.nilF [] RSub.nil (nodupB_spec rfl) ?_
    intro w49 e50
    refine Reg.nil ?_
    have hI51 := hI5.ext e50
    obtain rfl := Option.some.inj h8
    refine ⟨rfl, true, ⟨hI51, (Adv.of_ext e50), rfl⟩, Sub.cons rfl (Sub.cons rfl (Sub.nil _))⟩
   ·replace h8 := cdF hg48 h8
    refine Reg.take rfl rfl ?_
    refine s_fa rfl Tryd.underlying61 rfl Tryd.sizeOf3 rfl ?_
    refine Reg.take rfl rfl ?_
    refine s_ld rfl (hC6.cells.at 3 rfl) Tryd.isAgg3 rfl ?_
    refine Reg.take rfl rfl ?_
    refine s_fa rfl Tryd.underlying61 rfl Tryd.sizeOf3 rfl ?_
    refine Reg.take rfl rfl ?_
    refine s_ld rfl (hC6.cells.at 4 rfl) Tryd.isAgg3 rfl ?_
    refine Reg.take rfl rfl ?_
    refine Reg.rel (.p fun v w' => RdS (intE .i64) (mm [] M) w' v ([r.made, r.about] : List Int)) [] rfl rfl rfl RSub.nil rfl (nodupB_spec rfl) ?_ (fun v w1 w2 e h => h.adv (Adv.of_ext e)) ?_
    ·intro w52 e53; simp only [relOut]; refine s_bs (E := (intE .i64)) (M := mm [] M) (Bb := 0) (xs := ([r.made, r.about] : List Int)) sl36 rfl rfl (Cls.cons rfl (Cls.cons rfl Cls.nil)) (Chs.cons ⟨rfl, f_r_3⟩ (Chs.cons ⟨rfl, f_r_4⟩ Chs.nil)) (hI5.mlt.ext e53) (Nat.zero_le _) rfl rfl ?_; intro a54 w55 x56 _ h57 _; exact Reg.nil ⟨rfl, x56, _, rfl, h57, trivial⟩
    refine Reg.take rfl rfl ?_
    obtain ⟨z61, hz61, h8⟩ := bnd h8
    refine Reg.relC (.bool z61) [(27, _)] rfl rfl (RSub.cons rfl rfl RSub.nil) rfl (nodupB_spec rfl) ?_ ?_
    ·intro w62 e63; simp only [relOut]; intro u58 k59 s60; refine s_call rfl Tryd.call35 rfl ?_; refine (C_account_in (hI5.mlt.ext e63) (by decide) (by decide) k59 hz61).mono ?_; rintro _ w64 ⟨rfl, x65⟩; refine ⟨_, rfl, ?_⟩; exact Reg.nil ⟨rfl, x65, _, rfl, rfl, trivial⟩
    refine Reg.take rfl rfl ?_
    refine s_not rfl rfl ?_
    refine s_pkF rfl rfl rfl ?_
    refine s_mv rfl rfl ?_
    refine Reg.gsplit (t := 31) rfl (fun hg67 => ?_) (fun hg67 => ?_)
    ·replace h8 := cdT hg67 h8
     refine Reg.pass rfl rfl rfl rfl ?_
     refine Reg.pass rfl rfl rfl rfl ?_
     refine Reg.pass rfl rfl rfl rfl ?_
     refine Reg.pass rfl rfl rfl rfl ?_
     refine Reg.pass rfl rfl rfl rfl ?_
     refine Reg.pass rfl rfl rfl rfl ?_
     refine Reg.pass rfl rfl rfl rfl ?_
     refine Reg.pass rfl rfl rfl rfl ?_
     refine Reg.pass rfl rfl rfl rfl ?_
     refine s_pkT rfl rfl rfl ?_
     refine Reg.nilF [] RSub.nil (nodupB_spec rfl) ?_
     intro w68 e69
     refine Reg.nil ?_
     have hI70 := hI5.ext e69
     obtain rfl := Option.some.inj h8
     refine ⟨rfl, true, ⟨hI70, (Adv.of_ext e69), rfl⟩, Sub.cons rfl (Sub.cons rfl (Sub.nil _))⟩
    ·replace h8 := cdF hg67 h8
     refine Reg.take rfl rfl ?_
     refine s_fa rfl Tryd.underlying61 rfl Tryd.sizeOf5 rfl ?_
     refine Reg.take rfl rfl ?_
     refine s_ld rfl (hC6.cells.at 5 rfl) Tryd.isAgg5 rfl ?_
     refine Reg.take rfl rfl ?_
     obtain ⟨y71, hy71, h8⟩ := bnd h8
     refine s_iaG (k2 := .i64) (hG.adv hI5.adv) rfl rfl hy71 Tryd.underlying131 rfl Tryd.sizeOf3 rfl ?_
     intro hC72
     refine Reg.take rfl rfl ?_
     refine s_ld rfl (hC72.cells.at 0 rfl) Tryd.isAgg3 rfl ?_
     refine Reg.take rfl rfl ?_
     refine s_fa rfl Tryd.underlying61 rfl Tryd.sizeOf3 rfl ?_
     refine Reg.take rfl rfl ?_
     refine s_ld rfl (hC6.cells.at 6 rfl) Tryd.isAgg3 rfl ?_
     refine Reg.take rfl rfl ?_
     refine Reg.rel (.p fun v w' => RdS (intE .i64) (mm [] M) w' v ([r.cents] : List Int)) [] rfl rfl rfl RSub.nil rfl (nodupB_spec rfl) ?_ (fun v w1 w2 e h => h.adv (Adv.of_ext e)) ?_
     ·intro w73 e74; simp only [relOut]; refine s_bs (E := (intE .i64)) (M := mm [] M) (Bb := 0) (xs := ([r.cents] : List Int)) sl36 rfl rfl (Cls.cons rfl Cls.nil) (Chs.cons ⟨rfl, f_r_6⟩ Chs.nil) (hI5.mlt.ext e74) (Nat.zero_le _) rfl rfl ?_; intro a75 w76 x77 _ h78 _; exact Reg.nil ⟨rfl, x77, _, rfl, h78, trivial⟩
     refine Reg.take rfl rfl ?_
     obtain ⟨z82, hz82, h8⟩ := bnd h8
     refine Reg.relC (.bool z82) [(38, _)] rfl rfl (RSub.cons rfl rfl RSub.nil) rfl (nodupB_spec rfl) ?_ ?_
     ·intro w83 e84; simp only [relOut]; intro u79 k80 s81; refine s_call rfl Tryd.call35 rfl ?_; refine (C_account_in (hI5.mlt.ext e84) (by decide) (glob0_in hy71) k80 hz82).mono ?_; rintro _ w85 ⟨rfl, x86⟩; refine ⟨_, rfl, ?_⟩; exact Reg.nil ⟨rfl, x86, _, rfl, rfl, trivial⟩
     refine Reg.take rfl rfl ?_
     refine s_not rfl rfl ?_
     refine s_pkF rfl rfl rfl ?_
     refine Reg.nilF [] RSub.nil (nodupB_spec rfl) ?_
     intro w88 e89
     refine Reg.nil ?_
     have hI90 := hI5.ext e89
     obtain rfl := Option.some.inj h8
     refine ⟨rfl, !z82, ⟨hI90, (Adv.of_ext e89), rfl⟩, Sub.cons rfl (Sub.cons rfl (Sub.nil _))⟩
 ·skip
  rintro x9 w10 ⟨hI11, hA12, rfl⟩
  refine cw_cond rfl (fun hc91 => ?_) (fun hc91 => ?_)
  ·replace h := cdT hc91 h
   refine cw_seq (cw_regF ?_)
   refine s_as rfl rfl ?_
   refine Reg.nil ?_
   refine cw_ret ?_
   obtain rfl := Option.some.inj h
   refine fin1 Tryd.results50 rfl ?_
   exact ⟨rfl, hI11.kp⟩
  ·replace h := cdF hc91 h
   refine cw_skip ?_
   refine cw_seq ?_
   refine cw_block ?_
   refine cw_seq (cw_regF ?_)
   refine s_lda rfl (hC6.adv hA12).cells Tryd.isAgg61 rfl Tryd.sizeOf61 rfl ?_
   obtain ⟨z92, hz93, h⟩ := bnd h
   refine s_call rfl Tryd.call43 rfl ?_
   refine (C_account_fact (r := (Report.mk r.id r.source r.account r.made r.about r.kind r.cents r.of_)) hI11.mlt f_r_0 f_r_1 f_r_2 f_r_3 f_r_4 f_r_5 f_r_6 f_r_7 hz93).mono ?_
   rintro _ w94 ⟨rfl, e95⟩
   refine ⟨_, rfl, ?_⟩
   have hI96 := hI11.ext e95
   refine s_as rfl rfl ?_
   refine Reg.nil ?_
   refine cw_cond rfl (fun hc97 => ?_) (fun hc97 => ?_)
   ·replace h := cdT hc97 h
    refine cw_seq (cw_regF ?_)
    refine s_fa rfl Tryd.underlying61 rfl Tryd.sizeOf3 rfl ?_
    refine s_ld rfl ((hC6.adv (hA12.trans (Adv.of_ext e95))).cells.at 7 rfl) Tryd.isAgg3 rfl ?_
    refine s_eql rfl rfl rfl ?_
    refine s_as rfl rfl ?_
    refine Reg.nil ?_
    refine cw_ret ?_
    obtain rfl := Option.some.inj h
    refine fin1 Tryd.results50 rfl ?_
    exact ⟨rfl, hI96.kp⟩
   ·replace h := cdF hc97 h
    obtain ⟨j98, h99, h⟩ := bnd h
    refine cw_sub (L := [(1, _)]) (Sub.cons rfl (Sub.nil _)) ?_
    refine cw_seqD 0 (ι := Bool) (fun x100 => [(48, Value.bool x100)]) (fun x100 => fun w101 => w94 = w101 ∧ x100 = j98) ?_ ?_
    ·skip
     refine cw_regF ?_
     refine s_fa rfl Tryd.underlying61 rfl Tryd.sizeOf5 rfl ?_
     refine s_ld rfl ((hC6.adv (hA12.trans (Adv.of_ext e95))).cells.at 5 rfl) Tryd.isAgg5 rfl ?_
     refine s_eql rfl rfl rfl ?_
     refine s_mv rfl rfl ?_
     refine Reg.gsplit (t := 52) rfl (fun hg104 => ?_) (fun hg104 => ?_)
     ·replace h99 := cdT hg104 h99
      refine Reg.take rfl rfl ?_
      refine s_fa rfl Tryd.underlying61 rfl Tryd.sizeOf3 rfl ?_
      refine Reg.take rfl rfl ?_
      refine s_ld rfl ((hC6.adv (hA12.trans (Adv.of_ext e95))).cells.at 4 rfl) Tryd.isAgg3 rfl ?_
      refine Reg.take rfl rfl ?_
      refine s_neq rfl rfl rfl ?_
      refine s_pkT rfl rfl rfl ?_
      refine s_as rfl rfl ?_
      refine Reg.nil ?_
      obtain rfl := Option.some.inj h99
      refine ⟨rfl, !decide (r.about = 0), ⟨rfl, rfl⟩, Sub.cons rfl (Sub.cons rfl (Sub.nil _))⟩
     ·replace h99 := cdF hg104 h99
      refine Reg.pass rfl rfl rfl rfl ?_
      refine Reg.pass rfl rfl rfl rfl ?_
      refine Reg.pass rfl rfl rfl rfl ?_
      refine s_pkF rfl rfl rfl ?_
      refine s_as rfl rfl ?_
      refine Reg.nil ?_
      obtain rfl := Option.some.inj h99
      refine ⟨rfl, false, ⟨rfl, rfl⟩, Sub.cons rfl (Sub.cons rfl (Sub.nil _))⟩
    ·skip
     rintro x100 _ ⟨rfl, rfl⟩
     refine cw_cond rfl (fun hc105 => ?_) (fun hc105 => ?_)
     ·replace h := cdT hc105 h
      refine cw_seq (cw_regF ?_)
      refine s_as rfl rfl ?_
      refine Reg.nil ?_
      refine cw_ret ?_
      obtain rfl := Option.some.inj h
      refine fin1 Tryd.results50 rfl ?_
      exact ⟨rfl, hI96.kp⟩
     ·replace h := cdF hc105 h
      refine cw_skip (cw_seq (cw_regF ?_))
      refine s_fa rfl Tryd.underlying61 rfl Tryd.sizeOf3 rfl ?_
      refine s_ld rfl ((hC6.adv (hA12.trans (Adv.of_ext e95))).cells.at 7 rfl) Tryd.isAgg3 rfl ?_
      refine s_fa rfl Tryd.underlying61 rfl Tryd.sizeOf3 rfl ?_
      refine s_ld rfl ((hC6.adv (hA12.trans (Adv.of_ext e95))).cells.at 0 rfl) Tryd.isAgg3 rfl ?_
      refine s_neq rfl rfl rfl ?_
      refine s_as rfl rfl ?_
      refine Reg.nil ?_
      refine cw_ret ?_
      obtain rfl := Option.some.inj h
      refine fin1 Tryd.results50 rfl ?_
      exact ⟨rfl, hI96.kp⟩
noncomputable def P.account_Check_in1 (r : Report) : Option Bool :=
 Option.bind (P.account_right (Report.mk r.id r.source r.account r.made r.about r.kind r.cents r.of_)) fun z7 => some (!z7)
theorem C_account_Check_in1 {M : List Nat} {w : World} (hM : MLt M w) (hG : RdC M w 0 0 (glob0.map (Value.int .i64))) {r : Report} (f_r_0 : InK .i64 r.id) (f_r_1 : InK .i64 r.source) (f_r_2 : InK .i64 r.account) (f_r_3 : InK .i64 r.made) (f_r_4 : InK .i64 r.about) (f_r_5 : InK IntKind.u8 r.kind) (f_r_6 : InK .i64 r.cents) (f_r_7 : InK .i64 r.of_) {r0 : Bool} (h : P.account_Check_in1 r = some r0) :
  Calls Tryd.prog 49 (List.toArray [Value.agg (List.toArray [Value.int .i64 r.id, Value.int .i64 r.source, Value.int .i64 r.account, Value.int .i64 r.made, Value.int .i64 r.about, Value.int IntKind.u8 r.kind, Value.int .i64 r.cents, Value.int .i64 r.of_])]) w fun e w' => e = .returned (Value.bool r0) ∧ Ext w w' := by
 have hI := Hp.start (Mu := []) hM
 refine calls_cw Tryd.func49 rfl Tryd.ntmps49 rfl ?_
 refine cw_seq (cw_regF ?_)
 refine y_box hI rfl rfl rfl ?_
 intro b1 w2 hI3 x4
 have hC6 := hI3.freezeRow 0 rfl
 have hI5 := hI3.erase 0
 refine s_as rfl rfl ?_
 refine Reg.nil ?_
 refine cw_seq (cw_regF ?_)
 refine s_lda rfl hC6.cells Tryd.isAgg61 rfl Tryd.sizeOf61 rfl ?_
 obtain ⟨z7, hz8, h⟩ := bnd h
 refine s_call rfl Tryd.call50 rfl ?_
 refine (C_account_right (r := (Report.mk r.id r.source r.account r.made r.about r.kind r.cents r.of_)) hI5.mlt (hG.adv hI5.adv) f_r_0 f_r_1 f_r_2 f_r_3 f_r_4 f_r_5 f_r_6 f_r_7 hz8).mono ?_
 rintro _ w9 ⟨rfl, e10⟩
 refine ⟨_, rfl, ?_⟩
 have hI11 := hI5.ext e10
 refine s_not rfl rfl ?_
 refine s_as rfl rfl ?_
 refine Reg.nil ?_
 refine cw_ret ?_
 obtain rfl := Option.some.inj h
 refine fin1 Tryd.results49 rfl ?_
 exact ⟨rfl, hI11.kp⟩
noncomputable def P.account_Check (l : (List Report)) : Option Int :=
 cond (decide (60 < (l.length : Int))) (some 4) (Option.bind (P.slices_ContainsFunc_48 l (fun x0_ => P.account_Check_in1 x0_)) fun z2 => cond z2 (some 30) (Option.bind (loopM (S := Int × (FMap Int Report)) (R := ((FMap Int Report)) ⊕ (Int)) (fun (x12, x13) => cond (decide (x12 < (l.length : Int))) (Option.bind (ixo l x12) fun y15 => Option.bind (some ((x13 y15.id).getD (Report.mk 0 0 0 0 0 0 0 0))) fun y38 => Option.bind (cond ((x13 y15.id).isSome) (some (!decide ((Report.mk y38.id y38.source y38.account y38.made y38.about y38.kind y38.cents y38.of_) = (Report.mk y15.id y15.source y15.account y15.made y15.about y15.kind y15.cents y15.of_)))) (some false)) fun x61 => cond x61 (some (.inr (.inr 31))) (Option.bind (chk .i64 (x12 + 1)) fun n66 => some (.inl (n66, (fput x13 y15.id (Report.mk y15.id y15.source y15.account y15.made y15.about y15.kind y15.cents y15.of_)))))) (some (.inr (.inl x13)))) (0, fnone)) fun j67 => Sum.elim (fun x68 => some 0) (fun r69 => some r69)  j67))
theorem C_account_Check {M : List Nat} {w : World} (hM : MLt M w) (hG : RdC M w 0 0 (glob0.map (Value.int .i64))) {l : (List Report)} {v_l_0 : Value} (f_l_0 : RdS ReportE M w v_l_0 l) {r0 : Int} (h : P.account_Check l = some r0) :
  Calls Tryd.prog 17 (List.toArray [v_l_0]) w fun e w' => e = .returned (Value.int .i64 r0) ∧ InK .i64 r0 ∧ Ext w w' := by
 have hI := Hp.start (Mu := []) hM
 refine calls_cw Tryd.func17 rfl Tryd.ntmps17 rfl ?_
 refine cw_seq (cw_regF ?_)
 refine s_as rfl rfl ?_
 refine Reg.nil ?_
 refine cw_seq (cw_seq (cw_regF ?_))
 refine s_mv rfl rfl ?_
 refine s_len rfl f_l_0 Tryd.underlying22 rfl ?_
 refine s_gtr rfl rfl rfl ?_
 refine Reg.nil ?_
 refine cw_cond rfl (fun hc1 => ?_) (fun hc1 => ?_)
 ·replace h := cdT hc1 h
  refine cw_seq (cw_regF ?_)
  refine s_as rfl rfl ?_
  refine Reg.nil ?_
  refine cw_ret ?_
  obtain rfl := Option.some.inj h
  refine fin1 Tryd.results17 rfl ?_
  exact ⟨rfl, (by decide), hI.kp⟩
 ·replace h := cdF hc1 h
  refine cw_skip (cw_seq (cw_seq (cw_regF ?_)))
  refine s_mv rfl rfl ?_
  obtain ⟨z2, hz3, h⟩ := bnd h
  refine s_call rfl Tryd.call48 rfl ?_
  refine (C_slices_ContainsFunc_48 hI.mlt f_l_0 (fun a0 r w9 e9 f0 f1 f2 f3 f4 f5 f6 f7 hr => CallsV.ofL Tryd.call49 rfl (C_account_Check_in1 (hI.mlt.ext e9) (hG.adv (Adv.of_ext e9)) f0 f1 f2 f3 f4 f5 f6 f7 hr)) hz3).mono ?_
  rintro _ w4 ⟨rfl, e5⟩
  refine ⟨_, rfl, ?_⟩
  have hI6 := hI.ext e5
  refine Reg.nil ?_
  refine cw_cond rfl (fun hc7 => ?_) (fun hc7 => ?_)
  ·replace h := cdT hc7 h
   refine cw_seq (cw_regF ?_)
   refine s_as rfl rfl ?_
   refine Reg.nil ?_
   refine cw_ret ?_
   obtain rfl := Option.some.inj h
   refine fin1 Tryd.results17 rfl ?_
   exact ⟨rfl, (by decide), hI6.kp⟩
  ·replace h := cdF hc7 h
   refine cw_skip (cw_seq (cw_regF ?_))
   refine y_mkF Ky3 ReportE true hI6 rfl ?_
   intro b8 w9 hI10 x11
   refine s_as rfl rfl ?_
   refine Reg.nil ?_
   refine cw_seq (cw_seq (cw_regF ?_))
   refine s_mv rfl rfl ?_
   refine s_len rfl (f_l_0.adv hI10.adv) Tryd.underlying22 rfl ?_
   refine s_mv rfl rfl ?_
   refine Reg.nil ?_
   obtain ⟨j12, h13, h⟩ := bnd h
   refine cw_sub (L := [(3, _), (14, _), (15, _), (16, _)]) (Sub.cons rfl (Sub.cons rfl (Sub.cons rfl (Sub.cons rfl (Sub.nil _))))) ?_
   refine cw_unitD 4 (ι := (FMap Int Report)) (fun x14 => []) (fun x14 => fun w15 => Hp w [] M [mapO Ky3 ReportE true b8 x14] w15 ∧ Adv (mm [mapO Ky3 ReportE true b8 fnone] M) (mm [mapO Ky3 ReportE true b8 x14] M) w9 w15 ∧ (.inl x14) = j12) ?_ ?_
   ·skip
    refine cw_block ?_
    refine cw_sub (L := [(16, _), (3, _), (14, _), (15, _)]) (Sub.cons rfl (Sub.cons rfl (Sub.cons rfl (Sub.cons rfl (Sub.nil _))))) ?_
    refine cw_loopM 1 (ι := Int × (FMap Int Report)) _ (fun ⟨x18, x20⟩ => [(16, Value.int .i64 x18)]) (fun ⟨x18, x20⟩ => (x18, x20)) (fun ⟨x18, x20⟩ => fun w21 => Hp w [] M [mapO Ky3 ReportE true b8 x20] w21 ∧ Adv (mm [mapO Ky3 ReportE true b8 fnone] M) (mm [mapO Ky3 ReportE true b8 x20] M) w9 w21 ∧ InK .i64 x18) (0, fnone) h13 ⟨hI10, (Adv.refl _ _), (by decide)⟩ (Sub.cons rfl (Sub.cons rfl (Sub.cons rfl (Sub.cons rfl (Sub.nil _))))) ?_
    rintro ⟨x18, x20⟩ w21 ⟨hI22, hA23, r19⟩ y24 h25 hR26
    refine cw_seq (cw_regF ?_)
    refine s_lss rfl rfl rfl ?_
    refine Reg.nil ?_
    refine cw_seq ?_
    refine cw_cond rfl (fun hc27 => ?_) (fun hc27 => ?_)
    ·replace h25 := cdT hc27 h25
     refine cw_skip ?_
     refine cw_seq ?_
     refine cw_block ?_
     refine cw_seq (cw_regF ?_)
     obtain ⟨y28, hy28, h25⟩ := bnd h25
     refine p_ia rfl rfl (f_l_0.adv hI22.adv) hy28 Tryd.underlying22 Tryd.sizeOf61 rfl ?_
     intro b29 o30 cs31 hR32 hC33
     obtain ⟨rfl, r34, r35, r36, r37, r38, r39, r40, r41⟩ := ReportE_R.1 hR32
     refine s_lda rfl hC33.cells Tryd.isAgg61 rfl Tryd.sizeOf61 rfl ?_
     refine y_al hI22 Tryd.zeroValue61 rfl rfl ?_
     intro b42 w43 hI44 x45
     refine y_st 0 hI44 rfl rfl rfl rfl Tryd.sizeOf61 rfl rfl (one1 rfl (one1 rfl (one1 rfl (one1 rfl (one1 rfl (one1 rfl (one1 rfl (one1 rfl one0)))))))) ?_
     intro w46 hI47 x48
     have hC50 := hI47.freezeRow 0 rfl
     have hI49 := hI47.erase 0
     refine Reg.nil ?_
     refine cw_seq (cw_seq (cw_regF ?_))
     refine s_mv rfl rfl ?_
     refine s_fa rfl Tryd.underlying61 rfl Tryd.sizeOf3 rfl ?_
     refine s_ld rfl (hC50.cells.at 0 rfl) Tryd.isAgg3 rfl ?_
     obtain ⟨y51, hy51, h25⟩ := bnd h25
     refine y_lkF 0 (a := y28.id) (z0 := (Report.mk 0 0 0 0 0 0 0 0)) hI49 rfl rfl rfl (show InK .i64 y28.id from r34) Tryd.underlying88 Tryd.zeroValue61 ⟨_, ((ReportE_R (x := (Report.mk 0 0 0 0 0 0 0 0))).2 ⟨rfl, (by decide), (by decide), (by decide), (by decide), (by decide), (by decide), (by decide), (by decide)⟩), .inl ⟨rfl, rfl⟩⟩ rfl ?_
     intro v52 hv53
     rw [Option.some.inj hy51] at hv53
     obtain ⟨cs54, hR55, rfl⟩ := Vl.agg hv53
     obtain ⟨rfl, r56, r57, r58, r59, r60, r61, r62, r63⟩ := ReportE_R.1 hR55
     refine s_mv rfl rfl ?_
     refine s_xt rfl rfl rfl ?_
     refine s_xt rfl rfl rfl ?_
     refine y_al hI49 Tryd.zeroValue61 rfl rfl ?_
     intro b64 w65 hI66 x67
     refine y_st 0 hI66 rfl rfl rfl rfl Tryd.sizeOf61 rfl rfl (one1 rfl (one1 rfl (one1 rfl (one1 rfl (one1 rfl (one1 rfl (one1 rfl (one1 rfl one0)))))))) ?_
     intro w68 hI69 x70
     have hC72 := hI69.freezeRow 0 rfl
     have hI71 := hI69.erase 0
     refine s_as rfl rfl ?_
     refine Reg.nil ?_
     obtain ⟨j73, h74, h25⟩ := bnd h25
     refine cw_sub (L := [(6, _), (7, _), (3, _), (5, _), (14, _), (15, _), (16, _)]) (Sub.cons rfl (Sub.cons rfl (Sub.cons rfl (Sub.cons rfl (Sub.cons rfl (Sub.cons rfl (Sub.cons rfl (Sub.nil _)))))))) ?_
     refine cw_seqD 2 (ι := Bool) (fun x75 => [(32, Value.bool x75)]) (fun x75 => fun w76 => w68 = w76 ∧ x75 = j73) ?_ ?_
     ·skip
      refine cw_regF ?_
      refine s_mv rfl rfl ?_
      refine s_mv rfl rfl ?_
      refine Reg.gsplit (t := 28) rfl (fun hg79 => ?_) (fun hg79 => ?_)
      ·replace h74 := cdT hg79 h74
       refine Reg.take rfl rfl ?_
       refine s_lda rfl hC72.cells Tryd.isAgg61 rfl Tryd.sizeOf61 rfl ?_
       refine Reg.take rfl rfl ?_
       refine s_lda rfl (hC50.adv (x67.trans (x70.trans (Hp.eraseA (σ := [rowR 61 b64 [Value.int .i64 y51.id, Value.int .i64 y51.source, Value.int .i64 y51.account, Value.int .i64 y51.made, Value.int .i64 y51.about, Value.int IntKind.u8 (y51.kind), Value.int .i64 y51.cents, Value.int .i64 y51.of_], mapO Ky3 ReportE true b8 x20]) 0)))).cells Tryd.isAgg61 rfl Tryd.sizeOf61 rfl ?_
       refine Reg.take rfl rfl ?_
       refine s_neS (Report_eq (Report.mk y51.id y51.source y51.account y51.made y51.about y51.kind y51.cents y51.of_) (Report.mk y28.id y28.source y28.account y28.made y28.about y28.kind y28.cents y28.of_)) Tryd.eqGuardType61 rfl rfl rfl ?_
       refine s_pkT rfl rfl rfl ?_
       refine Reg.nil ?_
       obtain rfl := Option.some.inj h74
       refine ⟨rfl, !decide ((Report.mk y51.id y51.source y51.account y51.made y51.about y51.kind y51.cents y51.of_) = (Report.mk y28.id y28.source y28.account y28.made y28.about y28.kind y28.cents y28.of_)), ⟨rfl, rfl⟩, Sub.cons rfl (Sub.cons rfl (Sub.cons rfl (Sub.cons rfl (Sub.cons rfl (Sub.cons rfl (Sub.nil _))))))⟩
      ·replace h74 := cdF hg79 h74
       refine Reg.pass rfl rfl rfl rfl ?_
       refine Reg.pass rfl rfl rfl rfl ?_
       refine Reg.pass rfl rfl rfl rfl ?_
       refine s_pkF rfl rfl rfl ?_
       refine Reg.nil ?_
       obtain rfl := Option.some.inj h74
       refine ⟨rfl, false, ⟨rfl, rfl⟩, Sub.cons rfl (Sub.cons rfl (Sub.cons rfl (Sub.cons rfl (Sub.cons rfl (Sub.cons rfl (Sub.nil _))))))⟩
     ·skip
      rintro x75 _ ⟨rfl, rfl⟩
      refine cw_cond rfl (fun hc80 => ?_) (fun hc80 => ?_)
      ·replace h25 := cdT hc80 h25
       refine cw_seq (cw_regF ?_)
       refine s_as rfl rfl ?_
       refine Reg.nil ?_
       refine cw_ret ?_
       obtain rfl := Option.some.inj h25
       obtain rfl := hR26 _ rfl
       replace h := elimR h
       obtain rfl := Option.some.inj h
       refine fin1 Tryd.results17 rfl ?_
       exact ⟨rfl, (by decide), hI71.kp⟩
      ·replace h25 := cdF hc80 h25
       refine cw_skip ?_
       refine cw_regF ?_
       refine s_mv rfl rfl ?_
       refine s_fa rfl Tryd.underlying61 rfl Tryd.sizeOf3 rfl ?_
       refine s_ld rfl ((hC50.adv (x67.trans (x70.trans (Hp.eraseA (σ := [rowR 61 b64 [Value.int .i64 y51.id, Value.int .i64 y51.source, Value.int .i64 y51.account, Value.int .i64 y51.made, Value.int .i64 y51.about, Value.int IntKind.u8 (y51.kind), Value.int .i64 y51.cents, Value.int .i64 y51.of_], mapO Ky3 ReportE true b8 x20]) 0)))).cells.at 0 rfl) Tryd.isAgg3 rfl ?_
       refine s_lda rfl (hC50.adv (x67.trans (x70.trans (Hp.eraseA (σ := [rowR 61 b64 [Value.int .i64 y51.id, Value.int .i64 y51.source, Value.int .i64 y51.account, Value.int .i64 y51.made, Value.int .i64 y51.about, Value.int IntKind.u8 (y51.kind), Value.int .i64 y51.cents, Value.int .i64 y51.of_], mapO Ky3 ReportE true b8 x20]) 0)))).cells Tryd.isAgg61 rfl Tryd.sizeOf61 rfl ?_
       refine y_upF 0 (a := y28.id) (z := (Report.mk y28.id y28.source y28.account y28.made y28.about y28.kind y28.cents y28.of_)) hI71 rfl rfl rfl (show InK .i64 y28.id from r34) rfl ⟨_, ((ReportE_R (x := (Report.mk y28.id y28.source y28.account y28.made y28.about y28.kind y28.cents y28.of_))).2 ⟨rfl, r34, r35, r36, r37, r38, r39, r40, r41⟩), .inl ⟨rfl, rfl⟩⟩ Tryd.underlying88 ?_
       intro w81 hI82 x83
       refine Reg.nil ?_
       refine cw_regF ?_
       obtain ⟨n84, hn84, h25⟩ := bnd h25
       replace hn84 := chk_out hn84
       refine p_add rfl rfl rfl hn84 ?_
       refine s_mv rfl rfl ?_
       refine Reg.nil ?_
       obtain rfl := Option.some.inj h25
       refine ⟨rfl, (n84, (fput x20 y28.id (Report.mk y28.id y28.source y28.account y28.made y28.about y28.kind y28.cents y28.of_))), ⟨⟨hI82, (hA23.trans (x45.trans (x48.trans ((Hp.eraseA (σ := [rowR 61 b42 [Value.int .i64 y28.id, Value.int .i64 y28.source, Value.int .i64 y28.account, Value.int .i64 y28.made, Value.int .i64 y28.about, Value.int IntKind.u8 (y28.kind), Value.int .i64 y28.cents, Value.int .i64 y28.of_], mapO Ky3 ReportE true b8 x20]) 0).trans (x67.trans (x70.trans ((Hp.eraseA (σ := [rowR 61 b64 [Value.int .i64 y51.id, Value.int .i64 y51.source, Value.int .i64 y51.account, Value.int .i64 y51.made, Value.int .i64 y51.about, Value.int IntKind.u8 (y51.kind), Value.int .i64 y51.cents, Value.int .i64 y51.of_], mapO Ky3 ReportE true b8 x20]) 0).trans x83))))))), hn84.2⟩, rfl⟩, Sub.cons rfl (Sub.cons rfl (Sub.cons rfl (Sub.cons rfl (Sub.nil _))))⟩
    ·replace h25 := cdF hc27 h25
     refine cw_exit ?_
     refine exB_same ?_
     obtain rfl := Option.some.inj h25
     obtain rfl := hR26 _ rfl
     refine ⟨rfl, x20, ⟨hI22, hA23, rfl⟩, Sub.nil _⟩
   ·skip
    rintro x14 w15 ⟨hI16, hA17, rfl⟩
    replace h := elimL h
    refine cw_seq (cw_regF ?_)
    refine s_as rfl rfl ?_
    refine Reg.nil ?_
    refine cw_ret ?_
    obtain rfl := Option.some.inj h
    refine fin1 Tryd.results17 rfl ?_
    exact ⟨rfl, (by decide), hI16.kp⟩
end Go.Proofs.YtepjkmoipjeghaaDoor
