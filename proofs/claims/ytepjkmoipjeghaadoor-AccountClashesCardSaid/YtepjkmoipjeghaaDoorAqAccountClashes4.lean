/-
  Part AccountClashes 4 of the texts that the statement's proof stands on: what memory holds, how code is walked, what the functions reckon. In the order in which they build.
-/
import Derived.Test.YtepjkmoipjeghaaDoorProg
import Derived.Shelf.SlGeneric
import Derived.Shelf.SlLaysF0
import Derived.Ground.SlsfProg
import Derived.Shelf.SlSortCmp.WholeK
import Derived.Shelf.SlSortCmp.NoneTotal
import Derived.ProofKit
import Derived.Deep.Slices
import Derived.DeepKeys4
import Derived.WideKeyEntry
import Derived.Test.YtepjkmoipjeghaaDoorAqAccountClashes3
set_option linter.unusedVariables false
set_option linter.unusedSectionVars false
set_option maxRecDepth 20000
set_option maxHeartbeats 4000000
namespace Go.Proofs.YtepjkmoipjeghaaDoor
open Go Go.Sx Go.RowKit
variable [Trk]
noncomputable def P.cmp_isNaN_92 (x : Int) : Option Bool :=
  some (!decide (x = x))
theorem C_cmp_isNaN_92 {M : List Nat} {w : World} (hM : MLt M w) {x : Int} (f_x_0 : InK .i64 x) {r0 : Bool} (h : P.cmp_isNaN_92 x = some r0) :
  Calls Tryd.prog 92 (List.toArray [vi x]) w fun e w' => e = .returned (Value.bool r0) ∧ Ext w w' := by
 have hI := Hp.start (Mu := []) hM
 refine calls_cw Tryd.func92 rfl Tryd.ntmps92 rfl ?_
 refine cw_seq (cw_regF (s_as rfl rfl (Reg.nil (cw_seq (cw_regF (s_mv rfl rfl (s_mv rfl rfl (s_neq rfl rfl rfl (s_as rfl rfl (Reg.nil (cw_ret ?_)))))))))))
 obtain rfl := Option.some.inj h
 refine fin1 Tryd.results92 rfl ?_
 exact ⟨rfl, hI.kp⟩
noncomputable def P.cmp_Compare_72 (x : Int) (y : Int) : Option Int :=
  Option.bind (P.cmp_isNaN_92 x) fun z1 => Option.bind (P.cmp_isNaN_92 y) fun z6 => cond z1 (cond z6 (some 0) (some (-1))) (cond z6 (some 1) (cond (decide (x < y)) (some (-1)) (cond (decide (y < x)) (some 1) (some 0))))
theorem C_cmp_Compare_72 {M : List Nat} {w : World} (hM : MLt M w) {x : Int} (f_x_0 : InK .i64 x) {y : Int} (f_y_0 : InK .i64 y) {r0 : Int} (h : P.cmp_Compare_72 x y = some r0) :
  Calls Tryd.prog 72 (List.toArray [vi x, vi y]) w fun e w' => e = .returned (vi r0) ∧ InK .i64 r0 ∧ Ext w w' := by
 have hI := Hp.start (Mu := []) hM
 refine calls_cw Tryd.func72 rfl Tryd.ntmps72 rfl ?_
 refine cw_seq (cw_regF (s_as rfl rfl (Reg.nil (cw_seq (cw_regF (s_mv rfl rfl ?_))))))
 obtain ⟨z1, hz2, h⟩ := bnd h
 refine s_call rfl Tryd.call92 rfl ((C_cmp_isNaN_92 hI.mlt f_x_0 hz2).mono ?_)
 rintro _ w3 ⟨rfl, e4⟩
 refine ⟨_, rfl, ?_⟩
 have hI5 := hI.ext e4
 refine s_as rfl rfl (Reg.nil (cw_seq (cw_regF (s_mv rfl rfl ?_))))
 obtain ⟨z6, hz7, h⟩ := bnd h
 refine s_call rfl Tryd.call92 rfl ((C_cmp_isNaN_92 hI5.mlt f_y_0 hz7).mono ?_)
 rintro _ w8 ⟨rfl, e9⟩
 refine ⟨_, rfl, ?_⟩
 have hI10 := hI5.ext e9
 refine s_as rfl rfl (Reg.nil (cw_seq (cw_seq (cw_regF (s_mv rfl rfl (Reg.nil (cw_cond rfl (fun hc11 => ?_) (fun hc11 => ?_))))))))
 ·replace h := cdT hc11 h
  refine cw_seq (cw_seq (cw_regF (s_mv rfl rfl (Reg.nil (cw_cond rfl (fun hc12 => ?_) (fun hc12 => ?_))))))
  ·replace h := cdT hc12 h
   refine cw_seq (cw_regF (s_as rfl rfl (Reg.nil (cw_ret ?_))))
   obtain rfl := Option.some.inj h
   refine fin1 Tryd.results72 rfl ?_
   exact ⟨rfl, (by decide), hI10.kp⟩
  replace h := cdF hc12 h
  refine cw_skip (cw_seq (cw_regF (s_as rfl rfl (Reg.nil (cw_ret ?_)))))
  obtain rfl := Option.some.inj h
  refine fin1 Tryd.results72 rfl ?_
  exact ⟨rfl, (by decide), hI10.kp⟩
 replace h := cdF hc11 h
 refine cw_skip (cw_seq (cw_seq (cw_regF (s_mv rfl rfl (Reg.nil (cw_cond rfl (fun hc13 => ?_) (fun hc13 => ?_)))))))
 ·replace h := cdT hc13 h
  refine cw_seq (cw_regF (s_as rfl rfl (Reg.nil (cw_ret ?_))))
  obtain rfl := Option.some.inj h
  refine fin1 Tryd.results72 rfl ?_
  exact ⟨rfl, (by decide), hI10.kp⟩
 replace h := cdF hc13 h
 refine cw_skip (cw_seq (cw_seq (cw_regF (s_mv rfl rfl (s_mv rfl rfl (s_lss rfl rfl rfl (Reg.nil (cw_cond rfl (fun hc14 => ?_) (fun hc14 => ?_)))))))))
 ·replace h := cdT hc14 h
  refine cw_seq (cw_regF (s_as rfl rfl (Reg.nil (cw_ret ?_))))
  obtain rfl := Option.some.inj h
  refine fin1 Tryd.results72 rfl ?_
  exact ⟨rfl, (by decide), hI10.kp⟩
 replace h := cdF hc14 h
 refine cw_skip (cw_seq (cw_seq (cw_regF (s_mv rfl rfl (s_mv rfl rfl (s_gtr rfl rfl rfl (Reg.nil (cw_cond rfl (fun hc15 => ?_) (fun hc15 => ?_)))))))))
 ·replace h := cdT hc15 h
  refine cw_seq (cw_regF (s_as rfl rfl (Reg.nil (cw_ret ?_))))
  obtain rfl := Option.some.inj h
  refine fin1 Tryd.results72 rfl ?_
  exact ⟨rfl, (by decide), hI10.kp⟩
 replace h := cdF hc15 h
 refine cw_skip (cw_seq (cw_regF (s_as rfl rfl (Reg.nil (cw_ret ?_)))))
 obtain rfl := Option.some.inj h
 refine fin1 Tryd.results72 rfl ?_
 exact ⟨rfl, (by decide), hI10.kp⟩
noncomputable def P.cmp_Or_71 (vals : (List Int)) : Option Int :=
  Option.bind (loopM (S := Int) (R := (Unit) ⊕ (Int)) (fun x1 => cond (decide (x1 < (vals.length : Int))) (Option.bind (ixo vals x1) fun y3 => cond (!decide (y3 = 0)) (some (.inr (.inr y3))) (Option.bind (chk .i64 (x1 + 1)) fun n11 => some (.inl n11))) (some (.inr (.inl ())))) 0) fun j12 => Sum.elim (fun _ => some 0) (fun r13 => some r13)  j12
theorem C_cmp_Or_71 {M : List Nat} {w : World} (hM : MLt M w) {vals : (List Int)} {v_vals_0 : Value} (f_vals_0 : RdS (intE .i64) M w v_vals_0 vals) {r0 : Int} (h : P.cmp_Or_71 vals = some r0) :
  Calls Tryd.prog 71 (List.toArray [v_vals_0]) w fun e w' => e = .returned (vi r0) ∧ InK .i64 r0 ∧ Ext w w' := by
 have hI := Hp.start (Mu := []) hM
 refine calls_cw Tryd.func71 rfl Tryd.ntmps71 rfl ?_
 refine cw_seq (cw_regF (s_as rfl rfl (Reg.nil (cw_seq (cw_regF (s_as rfl rfl (Reg.nil (cw_seq (cw_seq (cw_regF (s_mv rfl rfl ?_)))))))))))
 refine s_len rfl f_vals_0 Tryd.underlying36 rfl (s_mv rfl rfl (Reg.nil ?_))
 obtain ⟨j1, h2, h⟩ := bnd h
 refine cw_keep [6, 7, 8, 3] rfl (cw_unitD 3 (ι := Unit) (fun _ => []) (fun _ => fun w3 => w = w3 ∧ (.inl ()) = j1) ?_ ?_)
 ·refine cw_block (cw_keep [8, 3, 6, 7] rfl ?_)
  refine cw_loopM 1 (ι := Int) _ (fun x6 => [(8, vi x6)]) (fun x6 => x6) (fun x6 => fun w8 => w = w8 ∧ InK .i64 x6) 0 h2 ⟨rfl, (by decide)⟩ (sb4 rfl rfl rfl rfl) ?_
  rintro x6 _ ⟨rfl, r7⟩ y11 h12 hR13
  refine cw_seq (cw_regF (s_lss rfl rfl rfl (Reg.nil (cw_seq (cw_cond rfl (fun hc14 => ?_) (fun hc14 => ?_))))))
  ·replace h12 := cdT hc14 h12
   refine cw_skip (cw_seq (cw_block (cw_seq (cw_regF ?_))))
   obtain ⟨y15, hy15, h12⟩ := bnd h12
   refine p_ia rfl rfl f_vals_0 hy15 Tryd.underlying36 Tryd.sizeOf3 rfl ?_
   intro b16 o17 cs18 hR19 hC20
   obtain ⟨rfl, r21⟩ := hR19
   refine s_ld rfl (hC20.cells.at 0 rfl) Tryd.isAgg3 rfl (s_as rfl rfl (Reg.nil (cw_seq (cw_regF (s_mv rfl rfl (s_mv rfl rfl (s_neq rfl rfl rfl (Reg.nil (cw_cond rfl (fun hc22 => ?_) (fun hc22 => ?_))))))))))
   ·replace h12 := cdT hc22 h12
    refine cw_seq (cw_regF (s_mv rfl rfl (s_as rfl rfl (Reg.nil (cw_ret ?_)))))
    obtain rfl := Option.some.inj h12
    obtain rfl := hR13 _ rfl
    replace h := elimR h
    obtain rfl := Option.some.inj h
    refine fin1 Tryd.results71 rfl ?_
    exact ⟨rfl, r21, hI.kp⟩
   replace h12 := cdF hc22 h12
   refine cw_skip (cw_regF ?_)
   obtain ⟨n23, hn23, h12⟩ := bnd h12
   replace hn23 := chk_out hn23
   refine p_add rfl rfl rfl hn23 (s_mv rfl rfl (Reg.nil ?_))
   obtain rfl := Option.some.inj h12
   refine ⟨rfl, n23, ⟨⟨rfl, hn23.2⟩, rfl⟩, sb4 rfl rfl rfl rfl⟩
  replace h12 := cdF hc14 h12
  refine cw_exit (exB_same ?_)
  obtain rfl := Option.some.inj h12
  obtain rfl := hR13 _ rfl
  refine ⟨rfl, (), ⟨rfl, rfl⟩, sb1 rfl⟩
 rintro _ _ ⟨rfl, rfl⟩
 replace h := elimL h
 refine cw_seq (cw_regF (s_mv rfl rfl (s_as rfl rfl (Reg.nil (cw_ret ?_)))))
 obtain rfl := Option.some.inj h
 refine fin1 Tryd.results71 rfl ?_
 exact ⟨rfl, (by decide), hI.kp⟩
noncomputable def P.account_open (l : (List Report)) (known : Int) : Option Desk :=
  Option.bind (loopM (S := Int × (FMap Int Report)) (R := ((FMap Int Report))) (fun (x24, x25) => cond (decide (x24 < (l.length : Int))) (Option.bind (Option.bind (ixo l x24) fun y27 => Option.bind (cond (decide (y27.made ≤ known)) (some (fput x25 y27.id (Report.mk y27.id y27.source y27.account y27.made y27.about y27.kind y27.cents y27.of_))) (some x25)) fun x54 => some x54) fun x55 => Option.bind (chk .i64 (x24 + 1)) fun n56 => some (.inl (n56, x55))) (some (.inr x25))) (0, fnone)) fun x57 => Option.bind (anyM (S := (FMap Int Int)) (fun x70 (y71 : Int × Report) => Option.bind (Option.bind (P.account_store_aim (Store.mk x57) (Report.mk y71.2.id y71.2.source y71.2.account y71.2.made y71.2.about y71.2.kind y71.2.cents y71.2.of_)) fun (z96, z97) => Option.bind (cond (decide (y71.2.kind = 9)) (cond z97 (some (!decide (z96.kind = 9))) (some false)) (some false)) fun x121 => Option.bind (cond x121 (Option.bind (some ((x70 z96.id).getD 0)) fun y123 => Option.bind (cond (!((x70 z96.id).isSome)) (some true) (some (decide (y71.2.id < y123)))) fun x129 => Option.bind (cond x129 (some (fput x70 z96.id y71.2.id)) (some x70)) fun x134 => some x134) (some x70)) fun x135 => some x135) fun x136 => some x136) x57 fnone) fun x137 => Option.bind (anyM (S := (FMap Int Int)) (fun x148 (y149 : Int × Report) => Option.bind (Option.bind (P.account_store_aim (Store.mk x57) (Report.mk y149.2.id y149.2.source y149.2.account y149.2.made y149.2.about y149.2.kind y149.2.cents y149.2.of_)) fun (z174, z175) => Option.bind (cond (!decide (y149.2.kind = 8)) (some true) (cond (!z175) (some true) (Option.bind (P.account_fact (Report.mk z174.id z174.source z174.account z174.made z174.about z174.kind z174.cents z174.of_)) fun z205 => cond (!z205) (some true) (Option.bind (ixo glob0 z174.kind) fun y213 => Option.bind (P.account_in 0 y213 ([y149.2.cents] : List Int)) fun z224 => cond (!z224) (some true) (Option.bind (P.account_desk_away (Desk.mk (Store.mk x57) x137 x148) y149.2.id) fun z234 => cond z234 (some true) (Option.bind (P.account_desk_away (Desk.mk (Store.mk x57) x137 x148) z174.id) fun z242 => some z242)))))) fun x249 => cond x249 (some x148) (Option.bind (some ((x148 z174.id).getD 0)) fun y251 => Option.bind (some ((x57 y251).getD (Report.mk 0 0 0 0 0 0 0 0))) fun y256 => Option.bind (cond (!((x148 z174.id).isSome)) (some true) (Option.bind (P.cmp_Compare_72 y256.made y149.2.made) fun z282 => Option.bind (P.cmp_Compare_72 y251 y149.2.id) fun z287 => Option.bind (P.cmp_Or_71 ([z282, z287] : List Int)) fun z301 => Option.bind (chk .i64 z301) fun n307 => some (decide (z301 < 0)))) fun x311 => Option.bind (cond x311 (some (fput x148 z174.id y149.2.id)) (some x148)) fun x316 => some x316)) fun x317 => some x317) x57 fnone) fun x318 => some (Desk.mk (Store.mk x57) x137 x318)
theorem C_account_open {M : List Nat} {w : World} (hM : MLt M w) (hG : RdC M w 0 0 (glob0.map (Value.int .i64))) {l : (List Report)} {v_l_0 : Value} (f_l_0 : RdS ReportE M w v_l_0 l) {known : Int} (f_known_0 : InK .i64 known) {r0 : Desk} (h : P.account_open l known = some r0) :
  Calls Tryd.prog 37 (List.toArray [v_l_0, vi known]) w fun e w' => ∃ v0_0 : Value, ∃ v0_1 : Value, ∃ v0_2 : Value, e = .returned (Value.agg (List.toArray [v0_0, v0_1, v0_2])) ∧ RdF Ky3 ReportE true M w' v0_0 r0.store.reports ∧ RdF Ky3 (intE .i64) false M w' v0_1 r0.gone ∧ RdF Ky3 (intE .i64) false M w' v0_2 r0.fixed ∧ Ext w w' := by
 have hI := Hp.start (Mu := []) hM
 refine calls_cw Tryd.func37 rfl Tryd.ntmps37 rfl ?_
 refine cw_seq (cw_regF (y_al hI Tryd.zeroValue92 rfl rfl ?_))
 intro b1 w2 hI3 x4
 refine Reg.nil (cw_seq (cw_regF (y_mkF Ky3 ReportE true hI3 rfl ?_)))
 intro b5 w6 hI7 x8
 refine s_bd [(0, 1)] Tryd.zeroValue90 rfl Tryd.underlying90 (fun _ => by simp [Tryd.sizeOf88]) rfl (Cls.cons rfl (Cls.nil)) rfl rfl ?_
 refine y_mkF Ky3 (intE .i64) false hI7 rfl ?_
 intro b9 w10 hI11 x12
 refine y_mkF Ky3 (intE .i64) false hI11 rfl ?_
 intro b13 w14 hI15 x16
 refine s_bd [(0, 1), (1, 1), (2, 1)] Tryd.zeroValue92 rfl Tryd.underlying92 (fun _ => by simp [Tryd.sizeOf79, Tryd.sizeOf90]) rfl (Cls.cons rfl (Cls.cons rfl (Cls.cons rfl (Cls.nil)))) rfl rfl ?_
 refine y_al hI15 Tryd.zeroValue92 rfl rfl ?_
 intro b17 w18 hI19 x20
 refine y_st 0 hI19 rfl rfl rfl rfl Tryd.sizeOf92 rfl rfl (on3 rfl rfl rfl) ?_
 intro w21 hI22 x23
 refine Reg.nil (cw_seq (cw_seq (cw_regF (s_mv rfl rfl (s_len rfl (f_l_0.adv hI22.adv) Tryd.underlying22 rfl (s_mv rfl rfl (Reg.nil ?_)))))))
 obtain ⟨j24, h25, h⟩ := bnd h
 refine cw_keep [1, 26, 27, 28, 4, 5] rfl (cw_unitD 4 (ι := (FMap Int Report)) (fun x26 => []) (fun x26 => fun w27 => Hp w [] M [rowR 92 b17 [Value.map (some b5), Value.map (some b9), Value.map (some b13)], mapO Ky3 (intE .i64) false b13 fnone, mapO Ky3 (intE .i64) false b9 fnone, mapO Ky3 ReportE true b5 x26, rowR 92 b1 [Value.map none, Value.map none, Value.map none]] w27 ∧ Adv (mm [rowR 92 b17 [Value.map (some b5), Value.map (some b9), Value.map (some b13)], mapO Ky3 (intE .i64) false b13 fnone, mapO Ky3 (intE .i64) false b9 fnone, mapO Ky3 ReportE true b5 fnone, rowR 92 b1 [Value.map none, Value.map none, Value.map none]] M) (mm [rowR 92 b17 [Value.map (some b5), Value.map (some b9), Value.map (some b13)], mapO Ky3 (intE .i64) false b13 fnone, mapO Ky3 (intE .i64) false b9 fnone, mapO Ky3 ReportE true b5 x26, rowR 92 b1 [Value.map none, Value.map none, Value.map none]] M) w21 w27 ∧ x26 = j24) ?_ ?_)
 ·refine cw_block (cw_keep [28, 1, 4, 5, 26, 27] rfl ?_)
  refine cw_loopM 1 (ι := Int × (FMap Int Report)) _ (fun ⟨x30, x32⟩ => [(28, vi x30)]) (fun ⟨x30, x32⟩ => (x30, x32)) (fun ⟨x30, x32⟩ => fun w33 => Hp w [] M [rowR 92 b17 [Value.map (some b5), Value.map (some b9), Value.map (some b13)], mapO Ky3 (intE .i64) false b13 fnone, mapO Ky3 (intE .i64) false b9 fnone, mapO Ky3 ReportE true b5 x32, rowR 92 b1 [Value.map none, Value.map none, Value.map none]] w33 ∧ Adv (mm [rowR 92 b17 [Value.map (some b5), Value.map (some b9), Value.map (some b13)], mapO Ky3 (intE .i64) false b13 fnone, mapO Ky3 (intE .i64) false b9 fnone, mapO Ky3 ReportE true b5 fnone, rowR 92 b1 [Value.map none, Value.map none, Value.map none]] M) (mm [rowR 92 b17 [Value.map (some b5), Value.map (some b9), Value.map (some b13)], mapO Ky3 (intE .i64) false b13 fnone, mapO Ky3 (intE .i64) false b9 fnone, mapO Ky3 ReportE true b5 x32, rowR 92 b1 [Value.map none, Value.map none, Value.map none]] M) w21 w33 ∧ InK .i64 x30) (0, fnone) h25 ⟨hI22, (Adv.refl _ _), (by decide)⟩ (sb6 rfl rfl rfl rfl rfl rfl) ?_
  rintro ⟨x30, x32⟩ w33 ⟨hI34, hA35, r31⟩ y36 h37 hR38
  refine cw_seq (cw_regF (s_lss rfl rfl rfl (Reg.nil (cw_seq (cw_cond rfl (fun hc39 => ?_) (fun hc39 => ?_))))))
  ·replace h37 := cdT hc39 h37
   refine cw_skip ?_
   obtain ⟨j40, h41, h37⟩ := bnd h37
   refine cw_keep [1, 4, 5, 26, 27, 28] rfl (cw_seqD 0 (ι := (FMap Int Report)) (fun x42 => []) (fun x42 => fun w43 => Hp w [] M [rowR 92 b17 [Value.map (some b5), Value.map (some b9), Value.map (some b13)], mapO Ky3 (intE .i64) false b13 fnone, mapO Ky3 (intE .i64) false b9 fnone, mapO Ky3 ReportE true b5 x42, rowR 92 b1 [Value.map none, Value.map none, Value.map none]] w43 ∧ Adv (mm [rowR 92 b17 [Value.map (some b5), Value.map (some b9), Value.map (some b13)], mapO Ky3 (intE .i64) false b13 fnone, mapO Ky3 (intE .i64) false b9 fnone, mapO Ky3 ReportE true b5 x32, rowR 92 b1 [Value.map none, Value.map none, Value.map none]] M) (mm [rowR 92 b17 [Value.map (some b5), Value.map (some b9), Value.map (some b13)], mapO Ky3 (intE .i64) false b13 fnone, mapO Ky3 (intE .i64) false b9 fnone, mapO Ky3 ReportE true b5 x42, rowR 92 b1 [Value.map none, Value.map none, Value.map none]] M) w33 w43 ∧ x42 = j40) ?_ ?_)
   ·refine cw_block (cw_seq (cw_regF ?_))
    obtain ⟨y46, hy46, h41⟩ := bnd h41
    refine p_ia rfl rfl (f_l_0.adv hI34.adv) hy46 Tryd.underlying22 Tryd.sizeOf61 rfl ?_
    intro b47 o48 cs49 hR50 hC51
    obtain ⟨rfl, r52, r53, r54, r55, r56, r57, r58, r59⟩ := ReportE_R.1 hR50
    refine s_lda rfl hC51.cells Tryd.isAgg61 rfl Tryd.sizeOf61 rfl (y_al hI34 Tryd.zeroValue61 rfl rfl ?_)
    intro b60 w61 hI62 x63
    refine y_st 0 hI62 rfl rfl rfl rfl Tryd.sizeOf61 rfl rfl (on8 rfl rfl rfl rfl rfl rfl rfl rfl) ?_
    intro w64 hI65 x66
    have hC68 := hI65.freezeRow 0 rfl
    have hI67 := hI65.erase 0
    refine Reg.nil (cw_seq (cw_regF (s_fa rfl Tryd.underlying61 rfl Tryd.sizeOf3 rfl (s_ld rfl (hC68.cells.at 3 rfl) Tryd.isAgg3 rfl (s_mv rfl rfl (s_leq rfl rfl rfl (Reg.nil ?_)))))))
    obtain ⟨j69, h70, h41⟩ := bnd h41
    refine cw_keep [7, 35, 1, 4, 5, 26, 27, 28] rfl (cw_unitD 2 (ι := (FMap Int Report)) (fun x71 => []) (fun x71 => fun w72 => Hp w [] M [rowR 92 b17 [Value.map (some b5), Value.map (some b9), Value.map (some b13)], mapO Ky3 (intE .i64) false b13 fnone, mapO Ky3 (intE .i64) false b9 fnone, mapO Ky3 ReportE true b5 x71, rowR 92 b1 [Value.map none, Value.map none, Value.map none]] w72 ∧ Adv (mm [rowR 92 b17 [Value.map (some b5), Value.map (some b9), Value.map (some b13)], mapO Ky3 (intE .i64) false b13 fnone, mapO Ky3 (intE .i64) false b9 fnone, mapO Ky3 ReportE true b5 x32, rowR 92 b1 [Value.map none, Value.map none, Value.map none]] M) (mm [rowR 92 b17 [Value.map (some b5), Value.map (some b9), Value.map (some b13)], mapO Ky3 (intE .i64) false b13 fnone, mapO Ky3 (intE .i64) false b9 fnone, mapO Ky3 ReportE true b5 x71, rowR 92 b1 [Value.map none, Value.map none, Value.map none]] M) w64 w72 ∧ x71 = j69) ?_ ?_)
    ·refine cw_cond rfl (fun hc75 => ?_) (fun hc75 => ?_)
     ·replace h70 := cdT hc75 h70
      refine cw_regF (s_fa rfl Tryd.underlying92 rfl Tryd.sizeOf90 rfl (s_fa rfl Tryd.underlying90 rfl Tryd.sizeOf88 rfl (s_ld rfl ((hI67.row 0 rfl).rd.cells.at 0 rfl) Tryd.isAgg88 rfl (s_fa rfl Tryd.underlying61 rfl Tryd.sizeOf3 rfl (s_ld rfl (hC68.cells.at 0 rfl) Tryd.isAgg3 rfl (s_lda rfl hC68.cells Tryd.isAgg61 rfl Tryd.sizeOf61 rfl (y_upF 3 (a := y46.id) (z := (Report.mk y46.id y46.source y46.account y46.made y46.about y46.kind y46.cents y46.of_)) hI67 rfl rfl rfl (show InK .i64 y46.id from r52) rfl ⟨_, ((ReportE_R (x := (Report.mk y46.id y46.source y46.account y46.made y46.about y46.kind y46.cents y46.of_))).2 ⟨rfl, r52, r53, r54, r55, r56, r57, r58, r59⟩), .inl ⟨rfl, rfl⟩⟩ Tryd.underlying88 ?_)))))))
      intro w76 hI77 x78
      refine Reg.nil ?_
      obtain rfl := Option.some.inj h70
      refine ⟨rfl, (fput x32 y46.id (Report.mk y46.id y46.source y46.account y46.made y46.about y46.kind y46.cents y46.of_)), ⟨hI77, x78, rfl⟩, sb6 rfl rfl rfl rfl rfl rfl⟩
     replace h70 := cdF hc75 h70
     refine cw_skip ?_
     obtain rfl := Option.some.inj h70
     refine ⟨rfl, x32, ⟨hI67, (Adv.refl _ _), rfl⟩, sb6 rfl rfl rfl rfl rfl rfl⟩
    rintro x71 w72 ⟨hI73, hA74, rfl⟩
    obtain rfl := Option.some.inj h41
    refine ⟨rfl, x71, ⟨hI73, (x63.trans (x66.trans ((hI65.eraseH 0).trans hA74))), rfl⟩, sb6 rfl rfl rfl rfl rfl rfl⟩
   rintro x42 w43 ⟨hI44, hA45, rfl⟩
   refine cw_regF ?_
   obtain ⟨n79, hn79, h37⟩ := bnd h37
   replace hn79 := chk_out hn79
   refine p_add rfl rfl rfl hn79 (s_mv rfl rfl (Reg.nil ?_))
   obtain rfl := Option.some.inj h37
   refine ⟨rfl, (n79, x42), ⟨⟨hI44, (hA35.trans hA45), hn79.2⟩, rfl⟩, sb6 rfl rfl rfl rfl rfl rfl⟩
  replace h37 := cdF hc39 h37
  refine cw_exit (exB_same ?_)
  obtain rfl := Option.some.inj h37
  obtain rfl := hR38 _ rfl
  refine ⟨rfl, x32, ⟨hI34, hA35, rfl⟩, sb2 rfl rfl⟩
 rintro x26 w27 ⟨hI28, hA29, rfl⟩
 refine cw_seq (cw_seq (cw_regF (s_fa rfl Tryd.underlying92 rfl Tryd.sizeOf90 rfl (s_fa rfl Tryd.underlying90 rfl Tryd.sizeOf88 rfl (s_ld rfl ((hI28.row 0 rfl).rd.cells.at 0 rfl) Tryd.isAgg88 rfl ?_)))))
 have hf80 := hI28.freezeM 3 rfl
 have hI81 := hI28.erase 3
 refine y_rg hI81 hf80 rfl Tryd.underlying88 rfl ?_
 intro r82 b83 c84 es85 xs86 w87 hX88 hL89 hI90 x91
 refine Reg.nil ?_
 obtain ⟨j92, h93, h⟩ := bnd h
 refine cw_keep [46, 4, 5] rfl (cw_unitD 1 (ι := (FMap Int Int)) (fun x94 => []) (fun x94 => fun w95 => Hp w [] M [rowR 92 b17 [(Value.map (some b5)), Value.map (some b9), Value.map (some b13)], mapO Ky3 (intE .i64) false b13 fnone, mapO Ky3 (intE .i64) false b9 x94, rowR 92 b1 [Value.map none, Value.map none, Value.map none]] w95 ∧ Adv (mm [itR r82 b83 c84 es85 xs86 none xs86, rowR 92 b17 [(Value.map (some b5)), Value.map (some b9), Value.map (some b13)], mapO Ky3 (intE .i64) false b13 fnone, mapO Ky3 (intE .i64) false b9 fnone, rowR 92 b1 [Value.map none, Value.map none, Value.map none]] M) (mm [rowR 92 b17 [(Value.map (some b5)), Value.map (some b9), Value.map (some b13)], mapO Ky3 (intE .i64) false b13 fnone, mapO Ky3 (intE .i64) false b9 x94, rowR 92 b1 [Value.map none, Value.map none, Value.map none]] M) w87 w95 ∧ x94 = j92) ?_ ?_)
 ·refine cw_block (cw_keep [4, 5, 46] rfl (cw_loopA 0 (ι := (FMap Int Int)) _ (fun x99 => []) (fun x99 => x99) (fun x99 => fun l98 w100 => Hp w [] M [itR r82 b83 c84 es85 xs86 none l98, rowR 92 b17 [(Value.map (some b5)), Value.map (some b9), Value.map (some b13)], mapO Ky3 (intE .i64) false b13 fnone, mapO Ky3 (intE .i64) false b9 x99, rowR 92 b1 [Value.map none, Value.map none, Value.map none]] w100 ∧ Adv (mm [itR r82 b83 c84 es85 xs86 none xs86, rowR 92 b17 [(Value.map (some b5)), Value.map (some b9), Value.map (some b13)], mapO Ky3 (intE .i64) false b13 fnone, mapO Ky3 (intE .i64) false b9 fnone, rowR 92 b1 [Value.map none, Value.map none, Value.map none]] M) (mm [itR r82 b83 c84 es85 xs86 none l98, rowR 92 b17 [(Value.map (some b5)), Value.map (some b9), Value.map (some b13)], mapO Ky3 (intE .i64) false b13 fnone, mapO Ky3 (intE .i64) false b9 x99, rowR 92 b1 [Value.map none, Value.map none, Value.map none]] M) w87 w100) fnone xs86 (anyM_out h93 hL89) ⟨hI90, (Adv.refl _ _)⟩ (sb3 rfl rfl rfl) ?_))
  rintro x99 l98 w100 ⟨hI101, hA102⟩ h104 hR105
  refine cw_seq (cw_regF (y_nx 0 hI101 (hX88.adv (x91.trans hA102)) rfl rfl rfl (fun hn106 => ?_) ?_))
  ·obtain rfl := h104 hn106
   have hI116 := hI101.erase 0
   refine s_xt rfl rfl rfl (Reg.nil (cw_seq (cw_condF rfl ?_)))
   refine cw_exit (exB_same ?_)
   refine ⟨rfl, x99, ⟨hI116, (hA102.trans (hI101.eraseH 0)), rfl⟩, sb2 rfl rfl⟩
  intro y107 l108 k109 v110 w111 hp112 hI113 x114
  obtain ⟨shB115, hB115⟩ := hR105 y107 l108 hp112
  have zhB115 := hB115
  refine s_xt rfl rfl rfl (Reg.nil (cw_seq (cw_condT rfl ?_)))
  refine cw_skip ?_
  obtain ⟨j117, h118, hB115⟩ := bnd hB115
  refine cw_keep [4, 5, 46] rfl (cw_unitD 0 (ι := (FMap Int Int)) (fun x119 => []) (fun x119 => fun w120 => Hp w [] M [itR r82 b83 c84 es85 xs86 none l108, rowR 92 b17 [(Value.map (some b5)), Value.map (some b9), Value.map (some b13)], mapO Ky3 (intE .i64) false b13 fnone, mapO Ky3 (intE .i64) false b9 x119, rowR 92 b1 [Value.map none, Value.map none, Value.map none]] w120 ∧ Adv (mm [itR r82 b83 c84 es85 xs86 (some y107) l108, rowR 92 b17 [(Value.map (some b5)), Value.map (some b9), Value.map (some b13)], mapO Ky3 (intE .i64) false b13 fnone, mapO Ky3 (intE .i64) false b9 x99, rowR 92 b1 [Value.map none, Value.map none, Value.map none]] M) (mm [itR r82 b83 c84 es85 xs86 none l108, rowR 92 b17 [(Value.map (some b5)), Value.map (some b9), Value.map (some b13)], mapO Ky3 (intE .i64) false b13 fnone, mapO Ky3 (intE .i64) false b9 x119, rowR 92 b1 [Value.map none, Value.map none, Value.map none]] M) w111 w120 ∧ x119 = j117) ?_ ?_)
  ·refine cw_block (cw_seq (cw_regF (y_en 0 hI113 (hX88.adv (x91.trans (hA102.trans x114))) rfl rfl rfl ?_)))
   intro v123 hk124 hv125
   obtain ⟨cs126, hR127, rfl⟩ := Vl.agg hv125
   obtain ⟨rfl, r128, r129, r130, r131, r132, r133, r134, r135⟩ := ReportE_R.1 hR127
   have hI136 := hI113.itOff 0 rfl
   refine s_xt rfl rfl rfl (y_al hI136 Tryd.zeroValue61 rfl rfl ?_)
   intro b137 w138 hI139 x140
   refine y_st 0 hI139 rfl rfl rfl rfl Tryd.sizeOf61 rfl rfl (on8 rfl rfl rfl rfl rfl rfl rfl rfl) ?_
   intro w141 hI142 x143
   have hC145 := hI142.freezeRow 0 rfl
   have hI144 := hI142.erase 0
   refine Reg.nil (cw_seq (cw_regF (s_fa rfl Tryd.underlying92 rfl Tryd.sizeOf90 rfl (s_lda rfl (Cells.sub (hI144.row 1 rfl).rd.cells 0 1) Tryd.isAgg90 rfl Tryd.sizeOf90 rfl (s_lda rfl hC145.cells Tryd.isAgg61 rfl Tryd.sizeOf61 rfl ?_)))))
   obtain ⟨⟨z146, z147⟩, hz148, h118⟩ := bnd h118
   refine s_call rfl Tryd.call42 rfl ((C_account_store_aim (s := (Store.mk x26)) (r := (Report.mk y107.2.id y107.2.source y107.2.account y107.2.made y107.2.about y107.2.kind y107.2.cents y107.2.of_)) hI144.mlt (hf80.adv (x91.trans (hA102.trans (x114.trans ((Hp.itOffA (σ := [itR r82 b83 c84 es85 xs86 (some y107) l108, rowR 92 b17 [(Value.map (some b5)), Value.map (some b9), Value.map (some b13)], mapO Ky3 (intE .i64) false b13 fnone, mapO Ky3 (intE .i64) false b9 x99, rowR 92 b1 [Value.map none, Value.map none, Value.map none]]) (M := M) 0 rfl).trans (x140.trans (x143.trans (hI142.eraseH 0)))))))) r128 r129 r130 r131 r132 r133 r134 r135 hz148).mono ?_)
   rintro _ w149 ⟨rfl, r151, r152, r153, r154, r155, r156, r157, r158, e150⟩
   refine ⟨_, rfl, ?_⟩
   have hI159 := hI144.ext e150
   refine s_mv rfl rfl (s_xt rfl rfl rfl (s_xt rfl rfl rfl (y_al hI159 Tryd.zeroValue61 rfl rfl ?_)))
   intro b160 w161 hI162 x163
   refine y_st 0 hI162 rfl rfl rfl rfl Tryd.sizeOf61 rfl rfl (on8 rfl rfl rfl rfl rfl rfl rfl rfl) ?_
   intro w164 hI165 x166
   have hC168 := hI165.freezeRow 0 rfl
   have hI167 := hI165.erase 0
   refine s_as rfl rfl (Reg.nil ?_)
   obtain ⟨j169, h170, h118⟩ := bnd h118
   refine cw_keep [11, 4, 5, 9, 10, 46] rfl (cw_seqD 1 (ι := Bool) (fun x171 => [(68, Value.bool x171)]) (fun x171 => fun w172 => w164 = w172 ∧ x171 = j169) ?_ ?_)
   ·refine cw_regF (s_fa rfl Tryd.underlying61 rfl Tryd.sizeOf5 rfl (s_ld rfl ((hC145.adv ((Adv.of_ext e150).trans (x163.trans (x166.trans (hI165.eraseH 0))))).cells.at 5 rfl) Tryd.isAgg5 rfl (s_eql rfl rfl rfl (s_mv rfl rfl (Reg.gsplit (t := 61) rfl (fun hg175 => ?_) (fun hg175 => ?_))))))
    ·replace h170 := cdT hg175 h170
     refine Reg.take rfl rfl (s_mv rfl rfl (s_pkT rfl rfl rfl (s_mv rfl rfl (Reg.gsplit (t := 64) rfl (fun hg176 => ?_) (fun hg176 => ?_)))))
     ·replace h170 := cdT hg176 h170
      refine Reg.take rfl rfl (s_fa rfl Tryd.underlying61 rfl Tryd.sizeOf5 rfl (Reg.take rfl rfl (s_ld rfl (hC168.cells.at 5 rfl) Tryd.isAgg5 rfl (Reg.take rfl rfl (s_neq rfl rfl rfl (s_pkT rfl rfl rfl (Reg.nil ?_)))))))
      obtain rfl := Option.some.inj h170
      refine ⟨rfl, !decide (z146.kind = 9), ⟨rfl, rfl⟩, sb6 rfl rfl rfl rfl rfl rfl⟩
     replace h170 := cdF hg176 h170
     iterate 3 refine Reg.pass rfl rfl rfl rfl ?_
     refine s_pkF rfl rfl rfl (Reg.nil ?_)
     obtain rfl := Option.some.inj h170
     refine ⟨rfl, false, ⟨rfl, rfl⟩, sb6 rfl rfl rfl rfl rfl rfl⟩
    replace h170 := cdF hg175 h170
    refine Reg.pass rfl rfl rfl rfl (s_pkF rfl rfl rfl (s_mv rfl rfl ?_))
    iterate 3 refine Reg.pass rfl rfl rfl rfl ?_
    refine s_pkF rfl rfl rfl (Reg.nil ?_)
    obtain rfl := Option.some.inj h170
    refine ⟨rfl, false, ⟨rfl, rfl⟩, sb6 rfl rfl rfl rfl rfl rfl⟩
   rintro x171 _ ⟨rfl, rfl⟩
   obtain ⟨j177, h178, h118⟩ := bnd h118
   refine cw_keep [9, 10, 68, 4, 5, 46] rfl (cw_unitD 3 (ι := (FMap Int Int)) (fun x179 => []) (fun x179 => fun w180 => Hp w [] M [itR r82 b83 c84 es85 xs86 none l108, rowR 92 b17 [(Value.map (some b5)), Value.map (some b9), Value.map (some b13)], mapO Ky3 (intE .i64) false b13 fnone, mapO Ky3 (intE .i64) false b9 x179, rowR 92 b1 [Value.map none, Value.map none, Value.map none]] w180 ∧ Adv (mm [itR r82 b83 c84 es85 xs86 none l108, rowR 92 b17 [(Value.map (some b5)), Value.map (some b9), Value.map (some b13)], mapO Ky3 (intE .i64) false b13 fnone, mapO Ky3 (intE .i64) false b9 x99, rowR 92 b1 [Value.map none, Value.map none, Value.map none]] M) (mm [itR r82 b83 c84 es85 xs86 none l108, rowR 92 b17 [(Value.map (some b5)), Value.map (some b9), Value.map (some b13)], mapO Ky3 (intE .i64) false b13 fnone, mapO Ky3 (intE .i64) false b9 x179, rowR 92 b1 [Value.map none, Value.map none, Value.map none]] M) w164 w180 ∧ x179 = j177) ?_ ?_)
   ·refine cw_cond rfl (fun hc183 => ?_) (fun hc183 => ?_)
    ·replace h178 := cdT hc183 h178
     refine cw_seq (cw_regF (s_fa rfl Tryd.underlying92 rfl Tryd.sizeOf79 rfl (s_ld rfl ((hI167.row 1 rfl).rd.cells.at 1 rfl) Tryd.isAgg79 rfl (s_fa rfl Tryd.underlying61 rfl Tryd.sizeOf3 rfl (s_ld rfl (hC168.cells.at 0 rfl) Tryd.isAgg3 rfl ?_)))))
     obtain ⟨y184, hy184, h178⟩ := bnd h178
     refine y_lkF 3 (a := z146.id) (z0 := 0) hI167 rfl rfl rfl (show InK .i64 z146.id from r151) Tryd.underlying79 Tryd.zeroValue3 ⟨_, ⟨rfl, (by decide)⟩, .inr ⟨rfl, rfl⟩⟩ rfl ?_
     intro v185 hv186
     rw [Option.some.inj hy184] at hv186
     have hR187 := Vl.one1 hv186
     obtain ⟨r188', r188⟩ := hR187
     obtain rfl := one_inj r188'
     refine s_mv rfl rfl (s_xt rfl rfl rfl (s_xt rfl rfl rfl (s_as rfl rfl (s_as rfl rfl (Reg.nil ?_)))))
     obtain ⟨j189, h190, h178⟩ := bnd h178
     refine cw_keep [12, 13, 4, 5, 9, 10, 46] rfl (cw_seqD 2 (ι := Bool) (fun x191 => [(84, Value.bool x191)]) (fun x191 => fun w192 => w164 = w192 ∧ x191 = j189) ?_ ?_)
     ·refine cw_regF (s_mv rfl rfl (s_not rfl rfl (s_mv rfl rfl (Reg.gsplit (t := 79) rfl (fun hg195 => ?_) (fun hg195 => ?_)))))
      ·replace h190 := cdT hg195 h190
       iterate 4 refine Reg.pass rfl rfl rfl rfl ?_
       refine s_pkT rfl rfl rfl (Reg.nil ?_)
       obtain rfl := Option.some.inj h190
       refine ⟨rfl, true, ⟨rfl, rfl⟩, sb6 rfl rfl rfl rfl rfl rfl⟩
      replace h190 := cdF hg195 h190
      refine Reg.take rfl rfl (s_fa rfl Tryd.underlying61 rfl Tryd.sizeOf3 rfl (Reg.take rfl rfl (s_ld rfl ((hC145.adv ((Adv.of_ext e150).trans (x163.trans (x166.trans (hI165.eraseH 0))))).cells.at 0 rfl) Tryd.isAgg3 rfl (Reg.take rfl rfl (s_mv rfl rfl (Reg.take rfl rfl (s_lss rfl rfl rfl (s_pkF rfl rfl rfl (Reg.nil ?_)))))))))
      obtain rfl := Option.some.inj h190
      refine ⟨rfl, decide (y107.2.id < y184), ⟨rfl, rfl⟩, sb6 rfl rfl rfl rfl rfl rfl⟩
     rintro x191 _ ⟨rfl, rfl⟩
     obtain ⟨j196, h197, h178⟩ := bnd h178
     refine cw_keep [9, 10, 84, 4, 5, 46] rfl (cw_unitD 3 (ι := (FMap Int Int)) (fun x198 => []) (fun x198 => fun w199 => Hp w [] M [itR r82 b83 c84 es85 xs86 none l108, rowR 92 b17 [(Value.map (some b5)), Value.map (some b9), Value.map (some b13)], mapO Ky3 (intE .i64) false b13 fnone, mapO Ky3 (intE .i64) false b9 x198, rowR 92 b1 [Value.map none, Value.map none, Value.map none]] w199 ∧ Adv (mm [itR r82 b83 c84 es85 xs86 none l108, rowR 92 b17 [(Value.map (some b5)), Value.map (some b9), Value.map (some b13)], mapO Ky3 (intE .i64) false b13 fnone, mapO Ky3 (intE .i64) false b9 x99, rowR 92 b1 [Value.map none, Value.map none, Value.map none]] M) (mm [itR r82 b83 c84 es85 xs86 none l108, rowR 92 b17 [(Value.map (some b5)), Value.map (some b9), Value.map (some b13)], mapO Ky3 (intE .i64) false b13 fnone, mapO Ky3 (intE .i64) false b9 x198, rowR 92 b1 [Value.map none, Value.map none, Value.map none]] M) w164 w199 ∧ x198 = j196) ?_ ?_)
     ·refine cw_cond rfl (fun hc202 => ?_) (fun hc202 => ?_)
      ·replace h197 := cdT hc202 h197
       refine cw_regF (s_fa rfl Tryd.underlying92 rfl Tryd.sizeOf79 rfl (s_ld rfl ((hI167.row 1 rfl).rd.cells.at 1 rfl) Tryd.isAgg79 rfl (s_fa rfl Tryd.underlying61 rfl Tryd.sizeOf3 rfl (s_ld rfl (hC168.cells.at 0 rfl) Tryd.isAgg3 rfl (s_fa rfl Tryd.underlying61 rfl Tryd.sizeOf3 rfl (s_ld rfl ((hC145.adv ((Adv.of_ext e150).trans (x163.trans (x166.trans (hI165.eraseH 0))))).cells.at 0 rfl) Tryd.isAgg3 rfl (y_upF 3 (a := z146.id) (z := y107.2.id) hI167 rfl rfl rfl (show InK .i64 z146.id from r151) rfl ⟨_, ⟨rfl, r128⟩, .inr ⟨rfl, rfl⟩⟩ Tryd.underlying79 ?_)))))))
       intro w203 hI204 x205
       refine Reg.nil ?_
       obtain rfl := Option.some.inj h197
       refine ⟨rfl, (fput x99 z146.id y107.2.id), ⟨hI204, x205, rfl⟩, sb3 rfl rfl rfl⟩
      replace h197 := cdF hc202 h197
      refine cw_skip ?_
      obtain rfl := Option.some.inj h197
      refine ⟨rfl, x99, ⟨hI167, (Adv.refl _ _), rfl⟩, sb3 rfl rfl rfl⟩
     rintro x198 w199 ⟨hI200, hA201, rfl⟩
     obtain rfl := Option.some.inj h178
     refine ⟨rfl, x198, ⟨hI200, hA201, rfl⟩, sb3 rfl rfl rfl⟩
    replace h178 := cdF hc183 h178
    refine cw_skip ?_
    obtain rfl := Option.some.inj h178
    refine ⟨rfl, x99, ⟨hI167, (Adv.refl _ _), rfl⟩, sb3 rfl rfl rfl⟩
   rintro x179 w180 ⟨hI181, hA182, rfl⟩
   obtain rfl := Option.some.inj h118
   refine ⟨rfl, x179, ⟨hI181, ((Hp.itOffA (σ := [itR r82 b83 c84 es85 xs86 (some y107) l108, rowR 92 b17 [(Value.map (some b5)), Value.map (some b9), Value.map (some b13)], mapO Ky3 (intE .i64) false b13 fnone, mapO Ky3 (intE .i64) false b9 x99, rowR 92 b1 [Value.map none, Value.map none, Value.map none]]) (M := M) 0 rfl).trans (x140.trans (x143.trans ((hI142.eraseH 0).trans ((Adv.of_ext e150).trans (x163.trans (x166.trans ((hI165.eraseH 0).trans hA182)))))))), rfl⟩, sb3 rfl rfl rfl⟩
  rintro x119 w120 ⟨hI121, hA122, rfl⟩
  obtain rfl := Option.some.inj hB115
  refine ⟨rfl, x119, y107, l108, ⟨hp112, zhB115, ⟨hI121, (hA102.trans (x114.trans hA122))⟩⟩, sb3 rfl rfl rfl⟩
 rintro x94 w95 ⟨hI96, hA97, rfl⟩
 refine cw_seq (cw_seq (cw_regF (s_fa rfl Tryd.underlying92 rfl Tryd.sizeOf90 rfl (s_fa rfl Tryd.underlying90 rfl Tryd.sizeOf88 rfl (s_ld rfl ((hI96.row 0 rfl).rd.cells.at 0 rfl) Tryd.isAgg88 rfl (y_rg hI96 (hf80.adv (x91.trans hA97)) rfl Tryd.underlying88 rfl ?_))))))
 intro r206 b207 c208 es209 xs210 w211 hX212 hL213 hI214 x215
 refine Reg.nil ?_
 obtain ⟨j216, h217, h⟩ := bnd h
 refine cw_keep [94, 4, 5] rfl (cw_unitD 1 (ι := (FMap Int Int)) (fun x218 => []) (fun x218 => fun w219 => Hp w [] M [rowR 92 b17 [(Value.map (some b5)), Value.map (some b9), Value.map (some b13)], mapO Ky3 (intE .i64) false b13 x218, mapO Ky3 (intE .i64) false b9 x94, rowR 92 b1 [Value.map none, Value.map none, Value.map none]] w219 ∧ Adv (mm [itR r206 b207 c208 es209 xs210 none xs210, rowR 92 b17 [(Value.map (some b5)), Value.map (some b9), Value.map (some b13)], mapO Ky3 (intE .i64) false b13 fnone, mapO Ky3 (intE .i64) false b9 x94, rowR 92 b1 [Value.map none, Value.map none, Value.map none]] M) (mm [rowR 92 b17 [(Value.map (some b5)), Value.map (some b9), Value.map (some b13)], mapO Ky3 (intE .i64) false b13 x218, mapO Ky3 (intE .i64) false b9 x94, rowR 92 b1 [Value.map none, Value.map none, Value.map none]] M) w211 w219 ∧ x218 = j216) ?_ ?_)
 ·refine cw_block (cw_keep [4, 5, 94] rfl (cw_loopA 0 (ι := (FMap Int Int)) _ (fun x223 => []) (fun x223 => x223) (fun x223 => fun l222 w224 => Hp w [] M [itR r206 b207 c208 es209 xs210 none l222, rowR 92 b17 [(Value.map (some b5)), Value.map (some b9), Value.map (some b13)], mapO Ky3 (intE .i64) false b13 x223, mapO Ky3 (intE .i64) false b9 x94, rowR 92 b1 [Value.map none, Value.map none, Value.map none]] w224 ∧ Adv (mm [itR r206 b207 c208 es209 xs210 none xs210, rowR 92 b17 [(Value.map (some b5)), Value.map (some b9), Value.map (some b13)], mapO Ky3 (intE .i64) false b13 fnone, mapO Ky3 (intE .i64) false b9 x94, rowR 92 b1 [Value.map none, Value.map none, Value.map none]] M) (mm [itR r206 b207 c208 es209 xs210 none l222, rowR 92 b17 [(Value.map (some b5)), Value.map (some b9), Value.map (some b13)], mapO Ky3 (intE .i64) false b13 x223, mapO Ky3 (intE .i64) false b9 x94, rowR 92 b1 [Value.map none, Value.map none, Value.map none]] M) w211 w224) fnone xs210 (anyM_out h217 hL213) ⟨hI214, (Adv.refl _ _)⟩ (sb3 rfl rfl rfl) ?_))
  rintro x223 l222 w224 ⟨hI225, hA226⟩ h228 hR229
  refine cw_seq (cw_regF (y_nx 0 hI225 (hX212.adv (x215.trans hA226)) rfl rfl rfl (fun hn230 => ?_) ?_))
  ·obtain rfl := h228 hn230
   have hI240 := hI225.erase 0
   refine s_xt rfl rfl rfl (Reg.nil (cw_seq (cw_condF rfl ?_)))
   refine cw_exit (exB_same ?_)
   refine ⟨rfl, x223, ⟨hI240, (hA226.trans (hI225.eraseH 0)), rfl⟩, sb2 rfl rfl⟩
  intro y231 l232 k233 v234 w235 hp236 hI237 x238
  obtain ⟨shB239, hB239⟩ := hR229 y231 l232 hp236
  have zhB239 := hB239
  refine s_xt rfl rfl rfl (Reg.nil (cw_seq (cw_condT rfl ?_)))
  refine cw_skip ?_
  obtain ⟨j241, h242, hB239⟩ := bnd hB239
  refine cw_keep [4, 5, 94] rfl (cw_unitD 0 (ι := (FMap Int Int)) (fun x243 => []) (fun x243 => fun w244 => Hp w [] M [itR r206 b207 c208 es209 xs210 none l232, rowR 92 b17 [(Value.map (some b5)), Value.map (some b9), Value.map (some b13)], mapO Ky3 (intE .i64) false b13 x243, mapO Ky3 (intE .i64) false b9 x94, rowR 92 b1 [Value.map none, Value.map none, Value.map none]] w244 ∧ Adv (mm [itR r206 b207 c208 es209 xs210 (some y231) l232, rowR 92 b17 [(Value.map (some b5)), Value.map (some b9), Value.map (some b13)], mapO Ky3 (intE .i64) false b13 x223, mapO Ky3 (intE .i64) false b9 x94, rowR 92 b1 [Value.map none, Value.map none, Value.map none]] M) (mm [itR r206 b207 c208 es209 xs210 none l232, rowR 92 b17 [(Value.map (some b5)), Value.map (some b9), Value.map (some b13)], mapO Ky3 (intE .i64) false b13 x243, mapO Ky3 (intE .i64) false b9 x94, rowR 92 b1 [Value.map none, Value.map none, Value.map none]] M) w235 w244 ∧ x243 = j241) ?_ ?_)
  ·refine cw_block (cw_seq (cw_regF (y_en 0 hI237 (hX212.adv (x215.trans (hA226.trans x238))) rfl rfl rfl ?_)))
   intro v247 hk248 hv249
   obtain ⟨cs250, hR251, rfl⟩ := Vl.agg hv249
   obtain ⟨rfl, r252, r253, r254, r255, r256, r257, r258, r259⟩ := ReportE_R.1 hR251
   have hI260 := hI237.itOff 0 rfl
   refine s_xt rfl rfl rfl (y_al hI260 Tryd.zeroValue61 rfl rfl ?_)
   intro b261 w262 hI263 x264
   refine y_st 0 hI263 rfl rfl rfl rfl Tryd.sizeOf61 rfl rfl (on8 rfl rfl rfl rfl rfl rfl rfl rfl) ?_
   intro w265 hI266 x267
   have hC269 := hI266.freezeRow 0 rfl
   have hI268 := hI266.erase 0
   refine Reg.nil (cw_seq (cw_regF (s_fa rfl Tryd.underlying92 rfl Tryd.sizeOf90 rfl (s_lda rfl (Cells.sub (hI268.row 1 rfl).rd.cells 0 1) Tryd.isAgg90 rfl Tryd.sizeOf90 rfl (s_lda rfl hC269.cells Tryd.isAgg61 rfl Tryd.sizeOf61 rfl ?_)))))
   obtain ⟨⟨z270, z271⟩, hz272, h242⟩ := bnd h242
   refine s_call rfl Tryd.call42 rfl ((C_account_store_aim (s := (Store.mk x26)) (r := (Report.mk y231.2.id y231.2.source y231.2.account y231.2.made y231.2.about y231.2.kind y231.2.cents y231.2.of_)) hI268.mlt (hf80.adv (x91.trans (hA97.trans (x215.trans (hA226.trans (x238.trans ((Hp.itOffA (σ := [itR r206 b207 c208 es209 xs210 (some y231) l232, rowR 92 b17 [(Value.map (some b5)), Value.map (some b9), Value.map (some b13)], mapO Ky3 (intE .i64) false b13 x223, mapO Ky3 (intE .i64) false b9 x94, rowR 92 b1 [Value.map none, Value.map none, Value.map none]]) (M := M) 0 rfl).trans (x264.trans (x267.trans (hI266.eraseH 0)))))))))) r252 r253 r254 r255 r256 r257 r258 r259 hz272).mono ?_)
   rintro _ w273 ⟨rfl, r275, r276, r277, r278, r279, r280, r281, r282, e274⟩
   refine ⟨_, rfl, ?_⟩
   have hI283 := hI268.ext e274
   refine s_mv rfl rfl (s_xt rfl rfl rfl (s_xt rfl rfl rfl (y_al hI283 Tryd.zeroValue61 rfl rfl ?_)))
   intro b284 w285 hI286 x287
   refine y_st 0 hI286 rfl rfl rfl rfl Tryd.sizeOf61 rfl rfl (on8 rfl rfl rfl rfl rfl rfl rfl rfl) ?_
   intro w288 hI289 x290
   have hC292 := hI289.freezeRow 0 rfl
   have hI291 := hI289.erase 0
   refine s_as rfl rfl (Reg.nil (cw_seq ?_))
   obtain ⟨j293, h294, h242⟩ := bnd h242
   refine cw_keep [17, 4, 5, 15, 16, 94] rfl (cw_seqD 1 (ι := Bool) (fun x295 => [(140, Value.bool x295)]) (fun x295 => fun w296 => Hp w [] M [itR r206 b207 c208 es209 xs210 none l232, rowR 92 b17 [(Value.map (some b5)), Value.map (some b9), Value.map (some b13)], mapO Ky3 (intE .i64) false b13 x223, mapO Ky3 (intE .i64) false b9 x94, rowR 92 b1 [Value.map none, Value.map none, Value.map none]] w296 ∧ Adv (mm [itR r206 b207 c208 es209 xs210 none l232, rowR 92 b17 [(Value.map (some b5)), Value.map (some b9), Value.map (some b13)], mapO Ky3 (intE .i64) false b13 x223, mapO Ky3 (intE .i64) false b9 x94, rowR 92 b1 [Value.map none, Value.map none, Value.map none]] M) (mm [itR r206 b207 c208 es209 xs210 none l232, rowR 92 b17 [(Value.map (some b5)), Value.map (some b9), Value.map (some b13)], mapO Ky3 (intE .i64) false b13 x223, mapO Ky3 (intE .i64) false b9 x94, rowR 92 b1 [Value.map none, Value.map none, Value.map none]] M) w288 w296 ∧ x295 = j293) ?_ ?_)
   ·refine cw_regD [0, 1, 2, 3, 4, 5, 6, 7, 8, 9, 10, 11, 12, 13, 14, 15, 16, 17, 18, 19, 20, 21, 22, 23, 24, 25, 26, 27, 28, 29, 30, 31, 32, 33, 34] [] fol (by kernel_rfl) rfl rfl ?_
    refine s_fa rfl Tryd.underlying61 rfl Tryd.sizeOf5 rfl (s_ld rfl ((hC269.adv ((Adv.of_ext e274).trans (x287.trans (x290.trans (hI289.eraseH 0))))).cells.at 5 rfl) Tryd.isAgg5 rfl (s_neq rfl rfl rfl (s_mv rfl rfl (Reg.gsplit (t := 109) rfl (fun hg299 => ?_) (fun hg299 => ?_)))))
    ·replace h294 := cdT hg299 h294
     refine Reg.pass rfl rfl rfl rfl (Reg.pass rfl rfl rfl rfl (s_pkT rfl rfl rfl (s_mv rfl rfl ?_)))
     iterate 3 refine Reg.pass rfl rfl rfl rfl ?_
     refine s_pkT rfl rfl rfl (s_mv rfl rfl ?_)
     iterate 9 refine Reg.pass rfl rfl rfl rfl ?_
     refine s_pkT rfl rfl rfl (s_mv rfl rfl ?_)
     iterate 4 refine Reg.pass rfl rfl rfl rfl ?_
     refine s_pkT rfl rfl rfl (s_mv rfl rfl ?_)
     iterate 4 refine Reg.pass rfl rfl rfl rfl ?_
     refine s_pkT rfl rfl rfl (Reg.nilF [] RSub.nil (nodupB_spec rfl) ?_)
     intro w300 e301
     refine Reg.nil ?_
     have hI302 := hI291.ext e301
     obtain rfl := Option.some.inj h294
     refine ⟨rfl, true, ⟨hI302, (Adv.of_ext e301), rfl⟩, sb6 rfl rfl rfl rfl rfl rfl⟩
    replace h294 := cdF hg299 h294
    refine Reg.take rfl rfl (s_mv rfl rfl (Reg.take rfl rfl (s_not rfl rfl (s_pkF rfl rfl rfl (s_mv rfl rfl (Reg.gsplit (t := 113) rfl (fun hg303 => ?_) (fun hg303 => ?_)))))))
    ·replace h294 := cdT hg303 h294
     iterate 3 refine Reg.pass rfl rfl rfl rfl ?_
     refine s_pkT rfl rfl rfl (s_mv rfl rfl ?_)
     iterate 9 refine Reg.pass rfl rfl rfl rfl ?_
     refine s_pkT rfl rfl rfl (s_mv rfl rfl ?_)
     iterate 4 refine Reg.pass rfl rfl rfl rfl ?_
     refine s_pkT rfl rfl rfl (s_mv rfl rfl ?_)
     iterate 4 refine Reg.pass rfl rfl rfl rfl ?_
     refine s_pkT rfl rfl rfl (Reg.nilF [] RSub.nil (nodupB_spec rfl) ?_)
     intro w304 e305
     refine Reg.nil ?_
     have hI306 := hI291.ext e305
     obtain rfl := Option.some.inj h294
     refine ⟨rfl, true, ⟨hI306, (Adv.of_ext e305), rfl⟩, sb6 rfl rfl rfl rfl rfl rfl⟩
    replace h294 := cdF hg303 h294
    refine Reg.take rfl rfl (s_lda rfl hC292.cells Tryd.isAgg61 rfl Tryd.sizeOf61 rfl (Reg.take rfl rfl ?_))
    obtain ⟨z307, hz308, h294⟩ := bnd h294
    refine s_callq rfl rfl Tryd.call43 rfl (fun w309 e310 => (C_account_fact (r := (Report.mk z270.id z270.source z270.account z270.made z270.about z270.kind z270.cents z270.of_)) (hI291.mlt.ext e310) r275 r276 r277 r278 r279 r280 r281 r282 hz308).mono (fun _ _ hq => ⟨hq.1, hq.2⟩)) ?_
    refine Reg.take rfl rfl (s_not rfl rfl (s_pkF rfl rfl rfl (s_mv rfl rfl (Reg.gsplit (t := 118) rfl (fun hg311 => ?_) (fun hg311 => ?_)))))
    ·replace h294 := cdT hg311 h294
     iterate 9 refine Reg.pass rfl rfl rfl rfl ?_
     refine s_pkT rfl rfl rfl (s_mv rfl rfl ?_)
     iterate 4 refine Reg.pass rfl rfl rfl rfl ?_
     refine s_pkT rfl rfl rfl (s_mv rfl rfl ?_)
     iterate 4 refine Reg.pass rfl rfl rfl rfl ?_
     refine s_pkT rfl rfl rfl (Reg.nilF [] RSub.nil (nodupB_spec rfl) ?_)
     intro w312 e313
     refine Reg.nil ?_
     have hI314 := hI291.ext e313
     obtain rfl := Option.some.inj h294
     refine ⟨rfl, true, ⟨hI314, (Adv.of_ext e313), rfl⟩, sb6 rfl rfl rfl rfl rfl rfl⟩
    replace h294 := cdF hg311 h294
    refine Reg.take rfl rfl (s_fa rfl Tryd.underlying61 rfl Tryd.sizeOf5 rfl (Reg.take rfl rfl (s_ld rfl (hC292.cells.at 5 rfl) Tryd.isAgg5 rfl (Reg.take rfl rfl ?_))))
    obtain ⟨y315, hy315, h294⟩ := bnd h294
    refine s_iaG (k2 := .i64) (hG.adv hI291.adv) rfl rfl hy315 Tryd.underlying131 rfl Tryd.sizeOf3 rfl ?_
    intro hC316
    refine Reg.take rfl rfl (s_ld rfl (hC316.cells.at 0 rfl) Tryd.isAgg3 rfl (Reg.take rfl rfl (s_fa rfl Tryd.underlying61 rfl Tryd.sizeOf3 rfl (Reg.take rfl rfl (s_ld rfl ((hC269.adv ((Adv.of_ext e274).trans (x287.trans (x290.trans (hI289.eraseH 0))))).cells.at 6 rfl) Tryd.isAgg3 rfl (Reg.take rfl rfl (Reg.rel (.p fun v w' => RdS (intE .i64) (mm [itR r206 b207 c208 es209 xs210 none l232, rowR 92 b17 [(Value.map (some b5)), Value.map (some b9), Value.map (some b13)], mapO Ky3 (intE .i64) false b13 x223, mapO Ky3 (intE .i64) false b9 x94, rowR 92 b1 [Value.map none, Value.map none, Value.map none]] M) w' v ([y231.2.cents] : List Int)) [] rfl rfl rfl RSub.nil rfl (nodupB_spec rfl) ?_ (fun v w1 w2 e h => h.adv (Adv.of_ext e)) ?_)))))))
    ·intro w317 e318; simp only [relOut]; refine s_bs (E := (intE .i64)) (M := mm [itR r206 b207 c208 es209 xs210 none l232, rowR 92 b17 [(Value.map (some b5)), Value.map (some b9), Value.map (some b13)], mapO Ky3 (intE .i64) false b13 x223, mapO Ky3 (intE .i64) false b9 x94, rowR 92 b1 [Value.map none, Value.map none, Value.map none]] M) (Bb := 0) (xs := ([y231.2.cents] : List Int)) sl36 rfl rfl (Cls.cons rfl Cls.nil) (Chs.cons ⟨rfl, r258⟩ Chs.nil) (hI291.mlt.ext e318) (Nat.zero_le _) rfl rfl ?_; intro a319 w320 x321 _ h322 _; exact Reg.nil ⟨rfl, x321, _, rfl, h322, trivial⟩
    refine Reg.take rfl rfl ?_
    obtain ⟨z326, hz326, h294⟩ := bnd h294
    refine Reg.relC (.bool z326) [(125, _)] rfl rfl (RSub.cons rfl rfl RSub.nil) rfl (nodupB_spec rfl) ?_ ?_
    ·intro w327 e328; simp only [relOut]; intro u323 k324 s325; refine s_call rfl Tryd.call35 rfl ?_; refine (C_account_in (hI291.mlt.ext e328) (by decide) (glob0_in hy315) k324 hz326).mono ?_; rintro _ w329 ⟨rfl, x330⟩; refine ⟨_, rfl, ?_⟩; exact Reg.nil ⟨rfl, x330, _, rfl, rfl, trivial⟩
    refine Reg.take rfl rfl (s_not rfl rfl (s_pkF rfl rfl rfl (s_mv rfl rfl (Reg.gsplit (t := 129) rfl (fun hg332 => ?_) (fun hg332 => ?_)))))
    ·replace h294 := cdT hg332 h294
     iterate 4 refine Reg.pass rfl rfl rfl rfl ?_
     refine s_pkT rfl rfl rfl (s_mv rfl rfl ?_)
     iterate 4 refine Reg.pass rfl rfl rfl rfl ?_
     refine s_pkT rfl rfl rfl (Reg.nilF [] RSub.nil (nodupB_spec rfl) ?_)
     intro w333 e334
     refine Reg.nil ?_
     have hI335 := hI291.ext e334
     obtain rfl := Option.some.inj h294
     refine ⟨rfl, true, ⟨hI335, (Adv.of_ext e334), rfl⟩, sb6 rfl rfl rfl rfl rfl rfl⟩
    replace h294 := cdF hg332 h294
    refine Reg.take rfl rfl (s_lda rfl (hI291.row 1 rfl).rd.cells Tryd.isAgg92 rfl Tryd.sizeOf92 rfl (Reg.take rfl rfl (s_fa rfl Tryd.underlying61 rfl Tryd.sizeOf3 rfl (Reg.take rfl rfl (s_ld rfl ((hC269.adv ((Adv.of_ext e274).trans (x287.trans (x290.trans (hI289.eraseH 0))))).cells.at 0 rfl) Tryd.isAgg3 rfl (Reg.take rfl rfl ?_))))))
    obtain ⟨z336, hz337, h294⟩ := bnd h294
    refine s_callq rfl rfl Tryd.call70 rfl (fun w338 e339 => (C_account_desk_away (d := (Desk.mk (Store.mk x26) x94 x223)) ((hI291.sel [0, 1, 4] rfl).mlt.ext e339) (((hf80.adv (x91.trans (hA97.trans (x215.trans (hA226.trans (x238.trans ((Hp.itOffA (σ := [itR r206 b207 c208 es209 xs210 (some y231) l232, rowR 92 b17 [(Value.map (some b5)), Value.map (some b9), Value.map (some b13)], mapO Ky3 (intE .i64) false b13 x223, mapO Ky3 (intE .i64) false b9 x94, rowR 92 b1 [Value.map none, Value.map none, Value.map none]]) (M := M) 0 rfl).trans (x264.trans (x267.trans ((hI266.eraseH 0).trans ((Adv.of_ext e274).trans (x287.trans (x290.trans (hI289.eraseH 0)))))))))))))).adv (Hp.selA (σ := [itR r206 b207 c208 es209 xs210 none l232, rowR 92 b17 [(Value.map (some b5)), Value.map (some b9), Value.map (some b13)], mapO Ky3 (intE .i64) false b13 x223, mapO Ky3 (intE .i64) false b9 x94, rowR 92 b1 [Value.map none, Value.map none, Value.map none]]) [0, 1, 4])).adv (Adv.of_ext e339)) ((hI291.lendF [0, 1, 4] 3 rfl rfl).adv (Adv.of_ext e339)) ((hI291.lendF [0, 1, 4] 2 rfl rfl).adv (Adv.of_ext e339)) r252 hz337).mono (fun _ _ hq => ⟨hq.1, hq.2⟩)) ?_
    refine s_pkF rfl rfl rfl (s_mv rfl rfl (Reg.gsplit (t := 135) rfl (fun hg340 => ?_) (fun hg340 => ?_)))
    ·replace h294 := cdT hg340 h294
     iterate 4 refine Reg.pass rfl rfl rfl rfl ?_
     refine s_pkT rfl rfl rfl (Reg.nilF [] RSub.nil (nodupB_spec rfl) ?_)
     intro w341 e342
     refine Reg.nil ?_
     have hI343 := hI291.ext e342
     obtain rfl := Option.some.inj h294
     refine ⟨rfl, true, ⟨hI343, (Adv.of_ext e342), rfl⟩, sb6 rfl rfl rfl rfl rfl rfl⟩
    replace h294 := cdF hg340 h294
    refine Reg.take rfl rfl (s_lda rfl (hI291.row 1 rfl).rd.cells Tryd.isAgg92 rfl Tryd.sizeOf92 rfl (Reg.take rfl rfl (s_fa rfl Tryd.underlying61 rfl Tryd.sizeOf3 rfl (Reg.take rfl rfl (s_ld rfl (hC292.cells.at 0 rfl) Tryd.isAgg3 rfl (Reg.take rfl rfl ?_))))))
    obtain ⟨z344, hz345, h294⟩ := bnd h294
    refine s_callq rfl rfl Tryd.call70 rfl (fun w346 e347 => (C_account_desk_away (d := (Desk.mk (Store.mk x26) x94 x223)) ((hI291.sel [0, 1, 4] rfl).mlt.ext e347) (((hf80.adv (x91.trans (hA97.trans (x215.trans (hA226.trans (x238.trans ((Hp.itOffA (σ := [itR r206 b207 c208 es209 xs210 (some y231) l232, rowR 92 b17 [(Value.map (some b5)), Value.map (some b9), Value.map (some b13)], mapO Ky3 (intE .i64) false b13 x223, mapO Ky3 (intE .i64) false b9 x94, rowR 92 b1 [Value.map none, Value.map none, Value.map none]]) (M := M) 0 rfl).trans (x264.trans (x267.trans ((hI266.eraseH 0).trans ((Adv.of_ext e274).trans (x287.trans (x290.trans (hI289.eraseH 0)))))))))))))).adv (Hp.selA (σ := [itR r206 b207 c208 es209 xs210 none l232, rowR 92 b17 [(Value.map (some b5)), Value.map (some b9), Value.map (some b13)], mapO Ky3 (intE .i64) false b13 x223, mapO Ky3 (intE .i64) false b9 x94, rowR 92 b1 [Value.map none, Value.map none, Value.map none]]) [0, 1, 4])).adv (Adv.of_ext e347)) ((hI291.lendF [0, 1, 4] 3 rfl rfl).adv (Adv.of_ext e347)) ((hI291.lendF [0, 1, 4] 2 rfl rfl).adv (Adv.of_ext e347)) r275 hz345).mono (fun _ _ hq => ⟨hq.1, hq.2⟩)) ?_
    refine s_pkF rfl rfl rfl (Reg.nilF [] RSub.nil (nodupB_spec rfl) ?_)
    intro w348 e349
    refine Reg.nil ?_
    have hI350 := hI291.ext e349
    obtain rfl := Option.some.inj h294
    refine ⟨rfl, z344, ⟨hI350, (Adv.of_ext e349), rfl⟩, sb6 rfl rfl rfl rfl rfl rfl⟩
   rintro x295 w296 ⟨hI297, hA298, rfl⟩
   refine cw_cond rfl (fun hc351 => ?_) (fun hc351 => ?_)
   ·replace h242 := cdT hc351 h242
    refine cw_exit (exB_same ?_)
    obtain rfl := Option.some.inj h242
    refine ⟨rfl, x223, ⟨hI297, ((Hp.itOffA (σ := [itR r206 b207 c208 es209 xs210 (some y231) l232, rowR 92 b17 [(Value.map (some b5)), Value.map (some b9), Value.map (some b13)], mapO Ky3 (intE .i64) false b13 x223, mapO Ky3 (intE .i64) false b9 x94, rowR 92 b1 [Value.map none, Value.map none, Value.map none]]) (M := M) 0 rfl).trans (x264.trans (x267.trans ((hI266.eraseH 0).trans ((Adv.of_ext e274).trans (x287.trans (x290.trans ((hI289.eraseH 0).trans hA298)))))))), rfl⟩, sb3 rfl rfl rfl⟩
   replace h242 := cdF hc351 h242
   refine cw_skip (cw_seq (cw_regF (s_fa rfl Tryd.underlying92 rfl Tryd.sizeOf79 rfl (s_ld rfl ((hI297.row 1 rfl).rd.cells.at 2 rfl) Tryd.isAgg79 rfl (s_fa rfl Tryd.underlying61 rfl Tryd.sizeOf3 rfl (s_ld rfl ((hC292.adv hA298).cells.at 0 rfl) Tryd.isAgg3 rfl ?_))))))
   obtain ⟨y352, hy352, h242⟩ := bnd h242
   refine y_lkF 2 (a := z270.id) (z0 := 0) hI297 rfl rfl rfl (show InK .i64 z270.id from r275) Tryd.underlying79 Tryd.zeroValue3 ⟨_, ⟨rfl, (by decide)⟩, .inr ⟨rfl, rfl⟩⟩ rfl ?_
   intro v353 hv354
   rw [Option.some.inj hy352] at hv354
   have hR355 := Vl.one1 hv354
   obtain ⟨r356', r356⟩ := hR355
   obtain rfl := one_inj r356'
   refine s_mv rfl rfl (s_xt rfl rfl rfl (s_xt rfl rfl rfl (s_as rfl rfl (s_as rfl rfl (Reg.nil (cw_seq (cw_regF (s_fa rfl Tryd.underlying92 rfl Tryd.sizeOf90 rfl (s_fa rfl Tryd.underlying90 rfl Tryd.sizeOf88 rfl (s_ld rfl ((hI297.row 1 rfl).rd.cells.at 0 rfl) Tryd.isAgg88 rfl (s_mv rfl rfl ?_)))))))))))
   obtain ⟨y357, hy357, h242⟩ := bnd h242
   refine s_lkF1 (a := y352) (z0 := (Report.mk 0 0 0 0 0 0 0 0)) (hf80.adv (x91.trans (hA97.trans (x215.trans (hA226.trans (x238.trans ((Hp.itOffA (σ := [itR r206 b207 c208 es209 xs210 (some y231) l232, rowR 92 b17 [(Value.map (some b5)), Value.map (some b9), Value.map (some b13)], mapO Ky3 (intE .i64) false b13 x223, mapO Ky3 (intE .i64) false b9 x94, rowR 92 b1 [Value.map none, Value.map none, Value.map none]]) (M := M) 0 rfl).trans (x264.trans (x267.trans ((hI266.eraseH 0).trans ((Adv.of_ext e274).trans (x287.trans (x290.trans ((hI289.eraseH 0).trans hA298)))))))))))))) rfl rfl (show InK .i64 y352 from r356) Tryd.underlying88 Tryd.zeroValue61 ⟨_, ((ReportE_R (x := (Report.mk 0 0 0 0 0 0 0 0))).2 ⟨rfl, (show InK .i64 0 by decide), (show InK .i64 0 by decide), (show InK .i64 0 by decide), (show InK .i64 0 by decide), (show InK .i64 0 by decide), (show InK .u8 0 by decide), (show InK .i64 0 by decide), (show InK .i64 0 by decide)⟩), .inl ⟨rfl, rfl⟩⟩ rfl ?_
   intro v358 hv359
   rw [Option.some.inj hy357] at hv359
   obtain ⟨cs360, hR361, rfl⟩ := Vl.agg hv359
   obtain ⟨rfl, r362, r363, r364, r365, r366, r367, r368, r369⟩ := ReportE_R.1 hR361
   refine y_al hI297 Tryd.zeroValue61 rfl rfl ?_
   intro b370 w371 hI372 x373
   refine y_st 0 hI372 rfl rfl rfl rfl Tryd.sizeOf61 rfl rfl (on8 rfl rfl rfl rfl rfl rfl rfl rfl) ?_
   intro w374 hI375 x376
   have hC378 := hI375.freezeRow 0 rfl
   have hI377 := hI375.erase 0
   refine Reg.nil ?_
   obtain ⟨j379, h380, h242⟩ := bnd h242
   refine cw_keep [18, 19, 20, 4, 5, 15, 16, 94] rfl (cw_seqD 3 (ι := Bool) (fun x381 => [(169, Value.bool x381)]) (fun x381 => fun w382 => Hp w [] M [itR r206 b207 c208 es209 xs210 none l232, rowR 92 b17 [(Value.map (some b5)), Value.map (some b9), Value.map (some b13)], mapO Ky3 (intE .i64) false b13 x223, mapO Ky3 (intE .i64) false b9 x94, rowR 92 b1 [Value.map none, Value.map none, Value.map none]] w382 ∧ Adv (mm [itR r206 b207 c208 es209 xs210 none l232, rowR 92 b17 [(Value.map (some b5)), Value.map (some b9), Value.map (some b13)], mapO Ky3 (intE .i64) false b13 x223, mapO Ky3 (intE .i64) false b9 x94, rowR 92 b1 [Value.map none, Value.map none, Value.map none]] M) (mm [itR r206 b207 c208 es209 xs210 none l232, rowR 92 b17 [(Value.map (some b5)), Value.map (some b9), Value.map (some b13)], mapO Ky3 (intE .i64) false b13 x223, mapO Ky3 (intE .i64) false b9 x94, rowR 92 b1 [Value.map none, Value.map none, Value.map none]] M) w374 w382 ∧ x381 = j379) ?_ ?_)
   ·refine cw_regD [0, 1, 2, 3, 4, 5, 6, 7, 8, 9, 10, 11, 12, 13, 14, 15] [] fol (by kernel_rfl) rfl rfl ?_
    refine s_mv rfl rfl (s_not rfl rfl (s_mv rfl rfl (Reg.gsplit (t := 156) rfl (fun hg385 => ?_) (fun hg385 => ?_))))
    ·replace h380 := cdT hg385 h380
     iterate 12 refine Reg.pass rfl rfl rfl rfl ?_
     refine s_pkT rfl rfl rfl (Reg.nilF [] RSub.nil (nodupB_spec rfl) ?_)
     intro w386 e387
     refine Reg.nil ?_
     have hI388 := hI377.ext e387
     obtain rfl := Option.some.inj h380
     refine ⟨rfl, true, ⟨hI388, (Adv.of_ext e387), rfl⟩, sb6 rfl rfl rfl rfl rfl rfl⟩
    replace h380 := cdF hg385 h380
    refine Reg.take rfl rfl (s_fa rfl Tryd.underlying61 rfl Tryd.sizeOf3 rfl (Reg.take rfl rfl (s_ld rfl (hC378.cells.at 3 rfl) Tryd.isAgg3 rfl (Reg.take rfl rfl (s_fa rfl Tryd.underlying61 rfl Tryd.sizeOf3 rfl (Reg.take rfl rfl (s_ld rfl ((hC269.adv ((Adv.of_ext e274).trans (x287.trans (x290.trans ((hI289.eraseH 0).trans (hA298.trans (x373.trans (x376.trans (hI375.eraseH 0))))))))).cells.at 3 rfl) Tryd.isAgg3 rfl (Reg.take rfl rfl ?_))))))))
    obtain ⟨z389, hz390, h380⟩ := bnd h380
    refine s_callq rfl rfl Tryd.call72 rfl (fun w391 e392 => (C_cmp_Compare_72 (hI377.mlt.ext e392) r365 r255 hz390).mono (fun _ _ hq => ⟨hq.1, hq.2.2⟩)) ?_
    have r393 := Calls.fact (C_cmp_Compare_72 hI377.mlt r365 r255 hz390) (fun _ _ hq => hq.2.1)
    refine Reg.take rfl rfl (s_mv rfl rfl (Reg.take rfl rfl (s_fa rfl Tryd.underlying61 rfl Tryd.sizeOf3 rfl (Reg.take rfl rfl (s_ld rfl ((hC269.adv ((Adv.of_ext e274).trans (x287.trans (x290.trans ((hI289.eraseH 0).trans (hA298.trans (x373.trans (x376.trans (hI375.eraseH 0))))))))).cells.at 0 rfl) Tryd.isAgg3 rfl (Reg.take rfl rfl ?_))))))
    obtain ⟨z394, hz395, h380⟩ := bnd h380
    refine s_callq rfl rfl Tryd.call72 rfl (fun w396 e397 => (C_cmp_Compare_72 (hI377.mlt.ext e397) r356 r252 hz395).mono (fun _ _ hq => ⟨hq.1, hq.2.2⟩)) ?_
    have r398 := Calls.fact (C_cmp_Compare_72 hI377.mlt r356 r252 hz395) (fun _ _ hq => hq.2.1)
    refine Reg.take rfl rfl (Reg.rel (.p fun v w' => RdS (intE .i64) (mm [itR r206 b207 c208 es209 xs210 none l232, rowR 92 b17 [(Value.map (some b5)), Value.map (some b9), Value.map (some b13)], mapO Ky3 (intE .i64) false b13 x223, mapO Ky3 (intE .i64) false b9 x94, rowR 92 b1 [Value.map none, Value.map none, Value.map none]] M) w' v ([z389, z394] : List Int)) [] rfl rfl rfl RSub.nil rfl (nodupB_spec rfl) ?_ (fun v w1 w2 e h => h.adv (Adv.of_ext e)) ?_)
    ·intro w399 e400; simp only [relOut]; refine s_bs (E := (intE .i64)) (M := mm [itR r206 b207 c208 es209 xs210 none l232, rowR 92 b17 [(Value.map (some b5)), Value.map (some b9), Value.map (some b13)], mapO Ky3 (intE .i64) false b13 x223, mapO Ky3 (intE .i64) false b9 x94, rowR 92 b1 [Value.map none, Value.map none, Value.map none]] M) (Bb := 0) (xs := ([z389, z394] : List Int)) sl36 rfl rfl (Cls.cons rfl (Cls.cons rfl Cls.nil)) (Chs.cons ⟨rfl, r393⟩ (Chs.cons ⟨rfl, r398⟩ Chs.nil)) (hI377.mlt.ext e400) (Nat.zero_le _) rfl rfl ?_; intro a401 w402 x403 _ h404 _; exact Reg.nil ⟨rfl, x403, _, rfl, h404, trivial⟩
    refine Reg.take rfl rfl ?_
    obtain ⟨z408, hz408, h380⟩ := bnd h380
    obtain ⟨n414, hn414, h380⟩ := bnd h380
    have kz408 : InK .i64 z408 := (chk_out hn414).1 ▸ (chk_out hn414).2
    refine Reg.relC (.int .i64 z408) [(166, _)] rfl rfl (RSub.cons rfl rfl RSub.nil) rfl (nodupB_spec rfl) ?_ ?_
    ·intro w409 e410; simp only [relOut]; intro u405 k406 s407; refine s_call rfl Tryd.call71 rfl ?_; refine (C_cmp_Or_71 (hI377.mlt.ext e410) k406 hz408).mono ?_; rintro _ w411 ⟨rfl, _, x412⟩; refine ⟨_, rfl, ?_⟩; exact Reg.nil ⟨rfl, x412, _, rfl, rfl, trivial⟩
    refine Reg.take rfl rfl (s_lss rfl rfl rfl (s_pkF rfl rfl rfl (Reg.nilF [] RSub.nil (nodupB_spec rfl) ?_)))
    intro w415 e416
    refine Reg.nil ?_
    have hI417 := hI377.ext e416
    obtain rfl := Option.some.inj h380
    refine ⟨rfl, decide (z408 < 0), ⟨hI417, (Adv.of_ext e416), rfl⟩, sb6 rfl rfl rfl rfl rfl rfl⟩
   rintro x381 w382 ⟨hI383, hA384, rfl⟩
   obtain ⟨j418, h419, h242⟩ := bnd h242
   refine cw_keep [15, 16, 169, 4, 5, 94] rfl (cw_unitD 3 (ι := (FMap Int Int)) (fun x420 => []) (fun x420 => fun w421 => Hp w [] M [itR r206 b207 c208 es209 xs210 none l232, rowR 92 b17 [(Value.map (some b5)), Value.map (some b9), Value.map (some b13)], mapO Ky3 (intE .i64) false b13 x420, mapO Ky3 (intE .i64) false b9 x94, rowR 92 b1 [Value.map none, Value.map none, Value.map none]] w421 ∧ Adv (mm [itR r206 b207 c208 es209 xs210 none l232, rowR 92 b17 [(Value.map (some b5)), Value.map (some b9), Value.map (some b13)], mapO Ky3 (intE .i64) false b13 x223, mapO Ky3 (intE .i64) false b9 x94, rowR 92 b1 [Value.map none, Value.map none, Value.map none]] M) (mm [itR r206 b207 c208 es209 xs210 none l232, rowR 92 b17 [(Value.map (some b5)), Value.map (some b9), Value.map (some b13)], mapO Ky3 (intE .i64) false b13 x420, mapO Ky3 (intE .i64) false b9 x94, rowR 92 b1 [Value.map none, Value.map none, Value.map none]] M) w382 w421 ∧ x420 = j418) ?_ ?_)
   ·refine cw_cond rfl (fun hc424 => ?_) (fun hc424 => ?_)
    ·replace h419 := cdT hc424 h419
     refine cw_regF (s_fa rfl Tryd.underlying92 rfl Tryd.sizeOf79 rfl (s_ld rfl ((hI383.row 1 rfl).rd.cells.at 2 rfl) Tryd.isAgg79 rfl (s_fa rfl Tryd.underlying61 rfl Tryd.sizeOf3 rfl (s_ld rfl ((hC292.adv (hA298.trans (x373.trans (x376.trans ((hI375.eraseH 0).trans hA384))))).cells.at 0 rfl) Tryd.isAgg3 rfl (s_fa rfl Tryd.underlying61 rfl Tryd.sizeOf3 rfl (s_ld rfl ((hC269.adv ((Adv.of_ext e274).trans (x287.trans (x290.trans ((hI289.eraseH 0).trans (hA298.trans (x373.trans (x376.trans ((hI375.eraseH 0).trans hA384))))))))).cells.at 0 rfl) Tryd.isAgg3 rfl (y_upF 2 (a := z270.id) (z := y231.2.id) hI383 rfl rfl rfl (show InK .i64 z270.id from r275) rfl ⟨_, ⟨rfl, r252⟩, .inr ⟨rfl, rfl⟩⟩ Tryd.underlying79 ?_)))))))
     intro w425 hI426 x427
     refine Reg.nil ?_
     obtain rfl := Option.some.inj h419
     refine ⟨rfl, (fput x223 z270.id y231.2.id), ⟨hI426, x427, rfl⟩, sb3 rfl rfl rfl⟩
    replace h419 := cdF hc424 h419
    refine cw_skip ?_
    obtain rfl := Option.some.inj h419
    refine ⟨rfl, x223, ⟨hI383, (Adv.refl _ _), rfl⟩, sb3 rfl rfl rfl⟩
   rintro x420 w421 ⟨hI422, hA423, rfl⟩
   obtain rfl := Option.some.inj h242
   refine ⟨rfl, x420, ⟨hI422, ((Hp.itOffA (σ := [itR r206 b207 c208 es209 xs210 (some y231) l232, rowR 92 b17 [(Value.map (some b5)), Value.map (some b9), Value.map (some b13)], mapO Ky3 (intE .i64) false b13 x223, mapO Ky3 (intE .i64) false b9 x94, rowR 92 b1 [Value.map none, Value.map none, Value.map none]]) (M := M) 0 rfl).trans (x264.trans (x267.trans ((hI266.eraseH 0).trans ((Adv.of_ext e274).trans (x287.trans (x290.trans ((hI289.eraseH 0).trans (hA298.trans (x373.trans (x376.trans ((hI375.eraseH 0).trans (hA384.trans hA423))))))))))))), rfl⟩, sb3 rfl rfl rfl⟩
  rintro x243 w244 ⟨hI245, hA246, rfl⟩
  obtain rfl := Option.some.inj hB239
  refine ⟨rfl, x243, y231, l232, ⟨hp236, zhB239, ⟨hI245, (hA226.trans (x238.trans hA246))⟩⟩, sb3 rfl rfl rfl⟩
 rintro x218 w219 ⟨hI220, hA221, rfl⟩
 refine cw_seq (cw_regF (s_lda rfl (hI220.row 0 rfl).rd.cells Tryd.isAgg92 rfl Tryd.sizeOf92 rfl (y_st 3 hI220 rfl rfl rfl rfl Tryd.sizeOf92 rfl rfl (one1 (RdF.oneC hf80) (on2 rfl rfl)) ?_)))
 intro w428 hI429 x430
 refine Reg.nil (cw_ret ?_)
 obtain rfl := Option.some.inj h
 have hf431 := hI429.freezeM 2 rfl
 have hI432 := hI429.erase 2
 have hf433 := hI432.freezeM 1 rfl
 have hI434 := hI432.erase 1
 refine fin_any Tryd.results37 (AllRs.cons (RsOk.agg rfl (hI434.row 1 rfl).rd.cells Tryd.isAgg92 rfl Tryd.sizeOf92) (AllRs.nil)) rfl ?_
 exact ⟨_, _, _, rfl, ((hf80.adv (x91.trans (hA97.trans (x215.trans (hA221.trans (x430.trans ((hI429.eraseH 2).trans (hI432.eraseH 1)))))))).adv hI434.baseH), ((hf431.adv (hI432.eraseH 1)).adv hI434.baseH), (hf433.adv hI434.baseH), hI434.kp⟩
end Go.Proofs.YtepjkmoipjeghaaDoor
set_option maxRecDepth 20000
set_option maxHeartbeats 4000000
namespace Go.Proofs.YtepjkmoipjeghaaDoor
open Go Go.Sx Go.RowKit
variable [Trk]
noncomputable def P.account_Fate (l : (List Report)) (n : Int) (known : Int) : Option (Int × Int × Int) :=
  Option.bind (P.account_Check l) fun z1 => cond (!decide (z1 = 0)) (some (0, 0, z1)) (Option.bind (P.account_in 0 100000 ([known] : List Int)) fun z12 => cond (!z12) (some (0, 0, 2)) (Option.bind (P.account_open l known) fun z18 => Option.bind (some ((z18.store.reports n).getD (Report.mk 0 0 0 0 0 0 0 0))) fun y38 => cond (!((z18.store.reports n).isSome)) (some (0, 0, 6)) (Option.bind (some ((z18.gone n).getD 0)) fun y61 => Option.bind (some ((z18.fixed n).getD 0)) fun y66 => Option.bind (P.account_store_aim (Store.mk z18.store.reports) (Report.mk y38.id y38.source y38.account y38.made y38.about y38.kind y38.cents y38.of_)) fun (z71, z72) => Option.bind (cond (decide (y38.kind = 9)) (cond z72 (some (!decide (z71.kind = 9))) (some false)) (some false)) fun x96 => Option.bind (Option.bind (cond (decide (y38.kind = 8)) (Option.bind (some ((z18.fixed y38.of_).getD 0)) fun y98 => Option.bind (cond ((z18.fixed y38.of_).isSome) (some (decide (y98 = n))) (some false)) fun x104 => some x104) (some x96)) fun x105 => some x105) fun x106 => cond ((z18.gone n).isSome) (some (2, y61, 0)) (cond x106 (some (4, (-1), 0)) (Option.bind (P.account_fact (Report.mk y38.id y38.source y38.account y38.made y38.about y38.kind y38.cents y38.of_)) fun z109 => cond (!z109) (some (3, (-1), 0)) (cond ((z18.fixed n).isSome) (some (1, y66, 0)) (some (0, (-1), 0))))))))
theorem C_account_Fate {M : List Nat} {w : World} (hM : MLt M w) (hG : RdC M w 0 0 (glob0.map (Value.int .i64))) {l : (List Report)} {v_l_0 : Value} (f_l_0 : RdS ReportE M w v_l_0 l) {n : Int} (f_n_0 : InK .i64 n) {known : Int} (f_known_0 : InK .i64 known) {r0 : Int} {r1 : Int} {r2 : Int} (h : P.account_Fate l n known = some (r0, r1, r2)) :
  Calls Tryd.prog 15 (List.toArray [v_l_0, vi n, vi known]) w fun e w' => e = .returned (Value.tuple (List.toArray [vu r0, vi r1, vi r2])) ∧ InK .u8 r0 ∧ InK .i64 r1 ∧ InK .i64 r2 ∧ Ext w w' := by
 have hI := Hp.start (Mu := []) hM
 refine calls_cw Tryd.func15 rfl Tryd.ntmps15 rfl ?_
 refine cw_seq (cw_regF ?_)
 iterate 3 refine s_as rfl rfl ?_
 refine Reg.nil (cw_seq (cw_seq (cw_regF (s_mv rfl rfl ?_))))
 obtain ⟨z1, hz2, h⟩ := bnd h
 refine s_call rfl Tryd.call17 rfl ((C_account_Check hI.mlt hG f_l_0 hz2).mono ?_)
 rintro _ w3 ⟨rfl, r5, e4⟩
 refine ⟨_, rfl, ?_⟩
 have hI6 := hI.ext e4
 refine s_as rfl rfl (Reg.nil (cw_seq (cw_regF (s_mv rfl rfl (s_neq rfl rfl rfl (Reg.nil (cw_cond rfl (fun hc7 => ?_) (fun hc7 => ?_))))))))
 ·replace h := cdT hc7 h
  refine cw_seq (cw_regF (s_mv rfl rfl ?_))
  iterate 3 refine s_as rfl rfl ?_
  refine Reg.nil (cw_ret ?_)
  obtain ⟨rfl, rfl, rfl⟩ := inj3 h
  refine fin3 Tryd.results15 rfl rfl rfl ?_
  exact ⟨rfl, (by decide), (by decide), r5, hI6.kp⟩
 replace h := cdF hc7 h
 refine cw_skip (cw_seq (cw_seq (cw_regF (s_mv rfl rfl (y_bs (E := (intE .i64)) (xs := [known]) sl36 hI6 rfl rfl (Cls.cons rfl Cls.nil) (Chs.cons ⟨rfl, f_known_0⟩ Chs.nil) rfl rfl ?_)))))
 intro v8 w9 hI10 x11
 obtain ⟨z12, hz13, h⟩ := bnd h
 refine s_call rfl Tryd.call35 rfl ?_
 refine (C_account_in (hI10.sel [] rfl).mlt (by decide) (by decide) (hI10.lendRd [] 0 rfl rfl) hz13).mono ?_
 rintro _ w14 ⟨rfl, e15⟩
 refine ⟨_, rfl, ?_⟩
 have hI16 := hI10.ext e15
 refine s_not rfl rfl (Reg.nil (cw_cond rfl (fun hc17 => ?_) (fun hc17 => ?_)))
 ·replace h := cdT hc17 h
  refine cw_seq (cw_regF ?_)
  iterate 3 refine s_as rfl rfl ?_
  refine Reg.nil (cw_ret ?_)
  obtain ⟨rfl, rfl, rfl⟩ := inj3 h
  refine fin3 Tryd.results15 rfl rfl rfl ?_
  exact ⟨rfl, (by decide), (by decide), (by decide), hI16.kp⟩
 replace h := cdF hc17 h
 refine cw_skip (cw_seq (cw_regF (s_mv rfl rfl (s_mv rfl rfl ?_))))
 obtain ⟨z18, hz19, h⟩ := bnd h
 refine s_call rfl Tryd.call37 rfl ((C_account_open hI16.mlt (hG.adv hI16.adv) (f_l_0.adv hI16.adv) f_known_0 hz19).mono ?_)
 rintro _ w20 ⟨v22, v24, v26, rfl, hf23, hf25, hf27, e21⟩
 refine ⟨_, rfl, ?_⟩
 have hI28 := hI16.ext e21
 refine y_al hI28 Tryd.zeroValue92 rfl rfl ?_
 intro b29 w30 hI31 x32
 refine y_st 0 hI31 rfl rfl rfl rfl Tryd.sizeOf92 rfl rfl (one1 (RdF.oneC hf23) (one1 (RdF.oneC hf25) (one1 (RdF.oneC hf27) one0))) ?_
 intro w33 hI34 x35
 have hC37 := hI34.freezeRow 0 rfl
 have hI36 := hI34.erase 0
 refine Reg.nil (cw_seq (cw_regF (s_fa rfl Tryd.underlying92 rfl Tryd.sizeOf90 rfl (s_fa rfl Tryd.underlying90 rfl Tryd.sizeOf88 rfl (s_ld rfl (hC37.cells.at 0 rfl) Tryd.isAgg88 rfl (s_mv rfl rfl ?_))))))
 obtain ⟨y38, hy38, h⟩ := bnd h
 refine s_lkF (a := n) (z0 := (Report.mk 0 0 0 0 0 0 0 0)) (hf23.adv (x32.trans (x35.trans (hI34.eraseH 0)))) rfl rfl (show InK .i64 n from f_n_0) Tryd.underlying88 Tryd.zeroValue61 ⟨_, ((ReportE_R (x := (Report.mk 0 0 0 0 0 0 0 0))).2 ⟨rfl, (show InK .i64 0 by decide), (show InK .i64 0 by decide), (show InK .i64 0 by decide), (show InK .i64 0 by decide), (show InK .i64 0 by decide), (show InK .u8 0 by decide), (show InK .i64 0 by decide), (show InK .i64 0 by decide)⟩), .inl ⟨rfl, rfl⟩⟩ rfl ?_
 intro v39 hv40
 rw [Option.some.inj hy38] at hv40
 obtain ⟨cs41, hR42, rfl⟩ := Vl.agg hv40
 obtain ⟨rfl, r43, r44, r45, r46, r47, r48, r49, r50⟩ := ReportE_R.1 hR42
 refine s_mv rfl rfl (s_xt rfl rfl rfl (s_xt rfl rfl rfl (y_al hI36 Tryd.zeroValue61 rfl rfl ?_)))
 intro b51 w52 hI53 x54
 refine y_st 0 hI53 rfl rfl rfl rfl Tryd.sizeOf61 rfl rfl (on8 rfl rfl rfl rfl rfl rfl rfl rfl) ?_
 intro w55 hI56 x57
 have hC59 := hI56.freezeRow 0 rfl
 have hI58 := hI56.erase 0
 refine s_as rfl rfl (Reg.nil (cw_seq (cw_seq (cw_regF (s_mv rfl rfl (s_not rfl rfl (Reg.nil (cw_cond rfl (fun hc60 => ?_) (fun hc60 => ?_)))))))))
 ·replace h := cdT hc60 h
  refine cw_seq (cw_regF ?_)
  iterate 3 refine s_as rfl rfl ?_
  refine Reg.nil (cw_ret ?_)
  obtain ⟨rfl, rfl, rfl⟩ := inj3 h
  refine fin3 Tryd.results15 rfl rfl rfl ?_
  exact ⟨rfl, (by decide), (by decide), (by decide), hI58.kp⟩
 replace h := cdF hc60 h
 refine cw_skip (cw_seq (cw_regF (s_fa rfl Tryd.underlying92 rfl Tryd.sizeOf79 rfl (s_ld rfl ((hC37.adv (x54.trans (x57.trans (hI56.eraseH 0)))).cells.at 1 rfl) Tryd.isAgg79 rfl (s_mv rfl rfl ?_)))))
 obtain ⟨y61, hy61, h⟩ := bnd h
 refine s_lkF (a := n) (z0 := 0) (hf25.adv (x32.trans (x35.trans ((hI34.eraseH 0).trans (x54.trans (x57.trans (hI56.eraseH 0))))))) rfl rfl (show InK .i64 n from f_n_0) Tryd.underlying79 Tryd.zeroValue3 ⟨_, ⟨rfl, (by decide)⟩, .inr ⟨rfl, rfl⟩⟩ rfl ?_
 intro v62 hv63
 rw [Option.some.inj hy61] at hv63
 have hR64 := Vl.one1 hv63
 obtain ⟨r65', r65⟩ := hR64
 obtain rfl := one_inj r65'
 refine s_mv rfl rfl (s_xt rfl rfl rfl (s_xt rfl rfl rfl (s_as rfl rfl (s_as rfl rfl (Reg.nil (cw_seq (cw_regF (s_fa rfl Tryd.underlying92 rfl Tryd.sizeOf79 rfl (s_ld rfl ((hC37.adv (x54.trans (x57.trans (hI56.eraseH 0)))).cells.at 2 rfl) Tryd.isAgg79 rfl (s_mv rfl rfl ?_))))))))))
 obtain ⟨y66, hy66, h⟩ := bnd h
 refine s_lkF (a := n) (z0 := 0) (hf27.adv (x32.trans (x35.trans ((hI34.eraseH 0).trans (x54.trans (x57.trans (hI56.eraseH 0))))))) rfl rfl (show InK .i64 n from f_n_0) Tryd.underlying79 Tryd.zeroValue3 ⟨_, ⟨rfl, (by decide)⟩, .inr ⟨rfl, rfl⟩⟩ rfl ?_
 intro v67 hv68
 rw [Option.some.inj hy66] at hv68
 have hR69 := Vl.one1 hv68
 obtain ⟨r70', r70⟩ := hR69
 obtain rfl := one_inj r70'
 refine s_mv rfl rfl (s_xt rfl rfl rfl (s_xt rfl rfl rfl (s_as rfl rfl (s_as rfl rfl (Reg.nil (cw_seq (cw_regF (s_fa rfl Tryd.underlying92 rfl Tryd.sizeOf90 rfl (s_lda rfl (Cells.sub (hC37.adv (x54.trans (x57.trans (hI56.eraseH 0)))).cells 0 1) Tryd.isAgg90 rfl Tryd.sizeOf90 rfl (s_lda rfl hC59.cells Tryd.isAgg61 rfl Tryd.sizeOf61 rfl ?_))))))))))
 obtain ⟨⟨z71, z72⟩, hz73, h⟩ := bnd h
 refine s_call rfl Tryd.call42 rfl ((C_account_store_aim (s := (Store.mk z18.store.reports)) (r := (Report.mk y38.id y38.source y38.account y38.made y38.about y38.kind y38.cents y38.of_)) hI58.mlt (hf23.adv (x32.trans (x35.trans ((hI34.eraseH 0).trans (x54.trans (x57.trans (hI56.eraseH 0))))))) r43 r44 r45 r46 r47 r48 r49 r50 hz73).mono ?_)
 rintro _ w74 ⟨rfl, r76, r77, r78, r79, r80, r81, r82, r83, e75⟩
 refine ⟨_, rfl, ?_⟩
 have hI84 := hI58.ext e75
 refine s_mv rfl rfl (s_xt rfl rfl rfl (s_xt rfl rfl rfl (y_al hI84 Tryd.zeroValue61 rfl rfl ?_)))
 intro b85 w86 hI87 x88
 refine y_st 0 hI87 rfl rfl rfl rfl Tryd.sizeOf61 rfl rfl (on8 rfl rfl rfl rfl rfl rfl rfl rfl) ?_
 intro w89 hI90 x91
 have hC93 := hI90.freezeRow 0 rfl
 have hI92 := hI90.erase 0
 refine s_as rfl rfl (Reg.nil ?_)
 obtain ⟨j94, h95, h⟩ := bnd h
 refine cw_keep [17, 18, 1, 10, 11, 13, 14, 15, 16] rfl (cw_seqD 2 (ι := Bool) (fun x96 => [(19, Value.bool x96)]) (fun x96 => fun w97 => w89 = w97 ∧ x96 = j94) ?_ ?_)
 ·refine cw_regF (s_fa rfl Tryd.underlying61 rfl Tryd.sizeOf5 rfl (s_ld rfl ((hC59.adv ((Adv.of_ext e75).trans (x88.trans (x91.trans (hI90.eraseH 0))))).cells.at 5 rfl) Tryd.isAgg5 rfl (s_eql rfl rfl rfl (s_mv rfl rfl (Reg.gsplit (t := 68) rfl (fun hg100 => ?_) (fun hg100 => ?_))))))
  ·replace h95 := cdT hg100 h95
   refine Reg.take rfl rfl (s_mv rfl rfl (s_pkT rfl rfl rfl (s_mv rfl rfl (Reg.gsplit (t := 71) rfl (fun hg101 => ?_) (fun hg101 => ?_)))))
   ·replace h95 := cdT hg101 h95
    refine Reg.take rfl rfl (s_fa rfl Tryd.underlying61 rfl Tryd.sizeOf5 rfl (Reg.take rfl rfl (s_ld rfl (hC93.cells.at 5 rfl) Tryd.isAgg5 rfl (Reg.take rfl rfl (s_neq rfl rfl rfl (s_pkT rfl rfl rfl (s_as rfl rfl (Reg.nil ?_))))))))
    obtain rfl := Option.some.inj h95
    refine ⟨rfl, !decide (z71.kind = 9), ⟨rfl, rfl⟩, sb8 rfl rfl rfl rfl rfl rfl rfl rfl⟩
   replace h95 := cdF hg101 h95
   iterate 3 refine Reg.pass rfl rfl rfl rfl ?_
   refine s_pkF rfl rfl rfl (s_as rfl rfl (Reg.nil ?_))
   obtain rfl := Option.some.inj h95
   refine ⟨rfl, false, ⟨rfl, rfl⟩, sb8 rfl rfl rfl rfl rfl rfl rfl rfl⟩
  replace h95 := cdF hg100 h95
  refine Reg.pass rfl rfl rfl rfl (s_pkF rfl rfl rfl (s_mv rfl rfl ?_))
  iterate 3 refine Reg.pass rfl rfl rfl rfl ?_
  refine s_pkF rfl rfl rfl (s_as rfl rfl (Reg.nil ?_))
  obtain rfl := Option.some.inj h95
  refine ⟨rfl, false, ⟨rfl, rfl⟩, sb8 rfl rfl rfl rfl rfl rfl rfl rfl⟩
 rintro x96 _ ⟨rfl, rfl⟩
 obtain ⟨j102, h103, h⟩ := bnd h
 refine cw_keep [1, 10, 19, 11, 13, 14, 15, 16] rfl (cw_seqD 3 (ι := Bool) (fun x104 => [(19, Value.bool x104)]) (fun x104 => fun w105 => w89 = w105 ∧ x104 = j102) ?_ ?_)
 ·refine cw_seq (cw_regF (s_fa rfl Tryd.underlying61 rfl Tryd.sizeOf5 rfl (s_ld rfl ((hC59.adv ((Adv.of_ext e75).trans (x88.trans (x91.trans (hI90.eraseH 0))))).cells.at 5 rfl) Tryd.isAgg5 rfl (s_eql rfl rfl rfl (Reg.nil ?_)))))
  obtain ⟨j108, h109, h103⟩ := bnd h103
  refine cw_keep [1, 10, 19, 78, 11, 13, 14, 15, 16] rfl (cw_unitD 4 (ι := Bool) (fun x110 => [(19, Value.bool x110)]) (fun x110 => fun w111 => w89 = w111 ∧ x110 = j108) ?_ ?_)
  ·refine cw_cond rfl (fun hc114 => ?_) (fun hc114 => ?_)
   ·replace h109 := cdT hc114 h109
    refine cw_seq (cw_regF (s_fa rfl Tryd.underlying92 rfl Tryd.sizeOf79 rfl (s_ld rfl ((hC37.adv (x54.trans (x57.trans ((hI56.eraseH 0).trans ((Adv.of_ext e75).trans (x88.trans (x91.trans (hI90.eraseH 0)))))))).cells.at 2 rfl) Tryd.isAgg79 rfl (s_fa rfl Tryd.underlying61 rfl Tryd.sizeOf3 rfl (s_ld rfl ((hC59.adv ((Adv.of_ext e75).trans (x88.trans (x91.trans (hI90.eraseH 0))))).cells.at 7 rfl) Tryd.isAgg3 rfl ?_)))))
    obtain ⟨y115, hy115, h109⟩ := bnd h109
    refine s_lkF (a := y38.of_) (z0 := 0) (hf27.adv (x32.trans (x35.trans ((hI34.eraseH 0).trans (x54.trans (x57.trans ((hI56.eraseH 0).trans ((Adv.of_ext e75).trans (x88.trans (x91.trans (hI90.eraseH 0))))))))))) rfl rfl (show InK .i64 y38.of_ from r50) Tryd.underlying79 Tryd.zeroValue3 ⟨_, ⟨rfl, (by decide)⟩, .inr ⟨rfl, rfl⟩⟩ rfl ?_
    intro v116 hv117
    rw [Option.some.inj hy115] at hv117
    have hR118 := Vl.one1 hv117
    obtain ⟨r119', r119⟩ := hR118
    obtain rfl := one_inj r119'
    refine s_mv rfl rfl (s_xt rfl rfl rfl (s_xt rfl rfl rfl (s_as rfl rfl (s_as rfl rfl (Reg.nil ?_)))))
    obtain ⟨j120, h121, h109⟩ := bnd h109
    refine cw_keep [1, 20, 21, 11, 13, 14, 15, 16] rfl (cw_unitD 3 (ι := Bool) (fun x122 => [(19, Value.bool x122)]) (fun x122 => fun w123 => w89 = w123 ∧ x122 = j120) ?_ ?_)
    ·refine cw_regF (s_mv rfl rfl (s_mv rfl rfl (Reg.gsplit (t := 88) rfl (fun hg126 => ?_) (fun hg126 => ?_))))
     ·replace h121 := cdT hg126 h121
      refine Reg.take rfl rfl (s_mv rfl rfl (Reg.take rfl rfl (s_mv rfl rfl (Reg.take rfl rfl (s_eql rfl rfl rfl (s_pkT rfl rfl rfl (s_as rfl rfl (Reg.nil ?_))))))))
      obtain rfl := Option.some.inj h121
      refine ⟨rfl, decide (y115 = n), ⟨rfl, rfl⟩, sb6 rfl rfl rfl rfl rfl rfl⟩
     replace h121 := cdF hg126 h121
     iterate 3 refine Reg.pass rfl rfl rfl rfl ?_
     refine s_pkF rfl rfl rfl (s_as rfl rfl (Reg.nil ?_))
     obtain rfl := Option.some.inj h121
     refine ⟨rfl, false, ⟨rfl, rfl⟩, sb6 rfl rfl rfl rfl rfl rfl⟩
    rintro x122 _ ⟨rfl, rfl⟩
    obtain rfl := Option.some.inj h109
    refine ⟨rfl, x122, ⟨rfl, rfl⟩, sb6 rfl rfl rfl rfl rfl rfl⟩
   replace h109 := cdF hc114 h109
   refine cw_skip ?_
   obtain rfl := Option.some.inj h109
   refine ⟨rfl, x96, ⟨rfl, rfl⟩, sb6 rfl rfl rfl rfl rfl rfl⟩
  rintro x110 _ ⟨rfl, rfl⟩
  obtain rfl := Option.some.inj h103
  refine ⟨rfl, x110, ⟨rfl, rfl⟩, sb6 rfl rfl rfl rfl rfl rfl⟩
 rintro x104 _ ⟨rfl, rfl⟩
 refine cw_seq (cw_block (cw_seq (cw_regF (s_mv rfl rfl (s_as rfl rfl (Reg.nil (cw_cond rfl (fun hc127 => ?_) (fun hc127 => ?_))))))))
 ·replace h := cdT hc127 h
  refine cw_seq (cw_regF (s_mv rfl rfl ?_))
  iterate 3 refine s_as rfl rfl ?_
  refine Reg.nil (cw_ret ?_)
  obtain ⟨rfl, rfl, rfl⟩ := inj3 h
  refine fin3 Tryd.results15 rfl rfl rfl ?_
  exact ⟨rfl, (by decide), r65, (by decide), hI92.kp⟩
 replace h := cdF hc127 h
 refine cw_seq (cw_regF (s_mv rfl rfl (s_as rfl rfl (Reg.nil (cw_cond rfl (fun hc128 => ?_) (fun hc128 => ?_))))))
 ·replace h := cdT hc128 h
  refine cw_seq (cw_regF ?_)
  iterate 3 refine s_as rfl rfl ?_
  refine Reg.nil (cw_ret ?_)
  obtain ⟨rfl, rfl, rfl⟩ := inj3 h
  refine fin3 Tryd.results15 rfl rfl rfl ?_
  exact ⟨rfl, (by decide), (by decide), (by decide), hI92.kp⟩
 replace h := cdF hc128 h
 refine cw_seq (cw_regF (s_lda rfl (hC59.adv ((Adv.of_ext e75).trans (x88.trans (x91.trans (hI90.eraseH 0))))).cells Tryd.isAgg61 rfl Tryd.sizeOf61 rfl ?_))
 obtain ⟨z129, hz130, h⟩ := bnd h
 refine s_call rfl Tryd.call43 rfl ((C_account_fact (r := (Report.mk y38.id y38.source y38.account y38.made y38.about y38.kind y38.cents y38.of_)) hI92.mlt r43 r44 r45 r46 r47 r48 r49 r50 hz130).mono ?_)
 rintro _ w131 ⟨rfl, e132⟩
 refine ⟨_, rfl, ?_⟩
 have hI133 := hI92.ext e132
 refine s_not rfl rfl (s_as rfl rfl (Reg.nil (cw_cond rfl (fun hc134 => ?_) (fun hc134 => ?_))))
 ·replace h := cdT hc134 h
  refine cw_seq (cw_regF ?_)
  iterate 3 refine s_as rfl rfl ?_
  refine Reg.nil (cw_ret ?_)
  obtain ⟨rfl, rfl, rfl⟩ := inj3 h
  refine fin3 Tryd.results15 rfl rfl rfl ?_
  exact ⟨rfl, (by decide), (by decide), (by decide), hI133.kp⟩
 replace h := cdF hc134 h
 refine cw_seq (cw_regF (s_mv rfl rfl (s_as rfl rfl (Reg.nil (cw_cond rfl (fun hc135 => ?_) (fun hc135 => ?_))))))
 ·replace h := cdT hc135 h
  refine cw_seq (cw_regF (s_mv rfl rfl ?_))
  iterate 3 refine s_as rfl rfl ?_
  refine Reg.nil (cw_ret ?_)
  obtain ⟨rfl, rfl, rfl⟩ := inj3 h
  refine fin3 Tryd.results15 rfl rfl rfl ?_
  exact ⟨rfl, (by decide), r70, (by decide), hI133.kp⟩
 replace h := cdF hc135 h
 refine cw_skip (cw_seq (cw_regF ?_))
 iterate 3 refine s_as rfl rfl ?_
 refine Reg.nil (cw_ret ?_)
 obtain ⟨rfl, rfl, rfl⟩ := inj3 h
 refine fin3 Tryd.results15 rfl rfl rfl ?_
 exact ⟨rfl, (by decide), (by decide), (by decide), hI133.kp⟩
end Go.Proofs.YtepjkmoipjeghaaDoor
set_option maxRecDepth 20000
set_option maxHeartbeats 4000000
namespace Go.Proofs.YtepjkmoipjeghaaDoor
open Go Go.Sx Go.RowKit
variable [Trk]
noncomputable def P.account_about (r : Report) : Option Int :=
  some r.about
theorem C_account_about {M : List Nat} {w : World} (hM : MLt M w) {r : Report} (f_r_0 : InK .i64 r.id) (f_r_1 : InK .i64 r.source) (f_r_2 : InK .i64 r.account) (f_r_3 : InK .i64 r.made) (f_r_4 : InK .i64 r.about) (f_r_5 : InK .u8 r.kind) (f_r_6 : InK .i64 r.cents) (f_r_7 : InK .i64 r.of_) {r0 : Int} (h : P.account_about r = some r0) :
  Calls Tryd.prog 75 (List.toArray [Value.agg (List.toArray (vR r))]) w fun e w' => e = .returned (vi r0) ∧ InK .i64 r0 ∧ Ext w w' := by
 have hI := Hp.start (Mu := []) hM
 refine calls_cw Tryd.func75 rfl Tryd.ntmps75 rfl ?_
 refine cw_seq (cw_regF (y_box hI rfl rfl rfl ?_))
 intro b1 w2 hI3 x4
 have hC6 := hI3.freezeRow 0 rfl
 have hI5 := hI3.erase 0
 refine s_as rfl rfl (Reg.nil (cw_seq (cw_regF (s_fa rfl Tryd.underlying61 rfl Tryd.sizeOf3 rfl (s_ld rfl (hC6.cells.at 4 rfl) Tryd.isAgg3 rfl (s_as rfl rfl (Reg.nil (cw_ret ?_))))))))
 obtain rfl := Option.some.inj h
 refine fin1 Tryd.results75 rfl ?_
 exact ⟨rfl, f_r_4, hI5.kp⟩
noncomputable def P.account_id (r : Report) : Option Int :=
  some r.id
theorem C_account_id {M : List Nat} {w : World} (hM : MLt M w) {r : Report} (f_r_0 : InK .i64 r.id) (f_r_1 : InK .i64 r.source) (f_r_2 : InK .i64 r.account) (f_r_3 : InK .i64 r.made) (f_r_4 : InK .i64 r.about) (f_r_5 : InK .u8 r.kind) (f_r_6 : InK .i64 r.cents) (f_r_7 : InK .i64 r.of_) {r0 : Int} (h : P.account_id r = some r0) :
  Calls Tryd.prog 76 (List.toArray [Value.agg (List.toArray (vR r))]) w fun e w' => e = .returned (vi r0) ∧ InK .i64 r0 ∧ Ext w w' := by
 have hI := Hp.start (Mu := []) hM
 refine calls_cw Tryd.func76 rfl Tryd.ntmps76 rfl ?_
 refine cw_seq (cw_regF (y_box hI rfl rfl rfl ?_))
 intro b1 w2 hI3 x4
 have hC6 := hI3.freezeRow 0 rfl
 have hI5 := hI3.erase 0
 refine s_as rfl rfl (Reg.nil (cw_seq (cw_regF (s_fa rfl Tryd.underlying61 rfl Tryd.sizeOf3 rfl (s_ld rfl (hC6.cells.at 0 rfl) Tryd.isAgg3 rfl (s_as rfl rfl (Reg.nil (cw_ret ?_))))))))
 obtain rfl := Option.some.inj h
 refine fin1 Tryd.results76 rfl ?_
 exact ⟨rfl, f_r_0, hI5.kp⟩
end Go.Proofs.YtepjkmoipjeghaaDoor
namespace Go.Proofs.YtepjkmoipjeghaaDoor
open Go Go.Sx Go.RowKit
variable [Trk]
theorem sl145 : SlT Tryd.prog 145 135 1 8 := ⟨Tryd.underlying145, Tryd.t135, _, by kernel_rfl, rfl, rfl, rfl, rfl⟩
noncomputable def P.fn135 (n : Nat) (r : Report) : Option Int := if n = 75 then P.account_about r else if n = 76 then P.account_id r else none
theorem C_fn135 {M : List Nat} {w : World} (hM : MLt M w) {n : Nat} {r : Report} (f0 : InK .i64 r.id) (f1 : InK .i64 r.source) (f2 : InK .i64 r.account) (f3 : InK .i64 r.made) (f4 : InK .i64 r.about) (f5 : InK .u8 r.kind) (f6 : InK .i64 r.cents) (f7 : InK .i64 r.of_) {r0 : Int} (h : P.fn135 n r = some r0) :
    CallsV Tryd.prog (.func (.func n) #[] #[]) [.agg (List.toArray [.int .i64 r.id, .int .i64 r.source, .int .i64 r.account, .int .i64 r.made, .int .i64 r.about, .int .u8 r.kind, .int .i64 r.cents, .int .i64 r.of_])] w fun e w' => e = .returned (.int .i64 r0) ∧ InK .i64 r0 ∧ Ext w w' := by
  unfold P.fn135 at h
  split at h
  · rename_i e
    subst e
    exact CallsV.ofL Tryd.call75 rfl (C_account_about hM f0 f1 f2 f3 f4 f5 f6 f7 h)
  · split at h
    · rename_i e
      subst e
      exact CallsV.ofL Tryd.call76 rfl (C_account_id hM f0 f1 f2 f3 f4 f5 f6 f7 h)
    · cases h
end Go.Proofs.YtepjkmoipjeghaaDoor
set_option maxRecDepth 20000
set_option maxHeartbeats 4000000
namespace Go.Proofs.YtepjkmoipjeghaaDoor
open Go Go.Sx Go.RowKit
variable [Trk]
noncomputable def P.account_ordered_api_Report_in1 (a : Report) (b : Report) (by__c : (List Nat)) : Option Int :=
  Option.bind (loopM (S := Int) (R := (Unit) ⊕ (Int)) (fun x13 => cond (decide (x13 < (by__c.length : Int))) (Option.bind (ixo by__c x13) fun y15 => Option.bind (P.fn135 y15 (Report.mk a.id a.source a.account a.made a.about a.kind a.cents a.of_)) fun z24 => Option.bind (P.fn135 y15 (Report.mk b.id b.source b.account b.made b.about b.kind b.cents b.of_)) fun z32 => Option.bind (P.cmp_Compare_72 z24 z32) fun z40 => cond (!decide (z40 = 0)) (some (.inr (.inr z40))) (Option.bind (chk .i64 (x13 + 1)) fun n54 => some (.inl n54))) (some (.inr (.inl ())))) 0) fun j55 => Sum.elim (fun _ => some 0) (fun r56 => some r56)  j55
theorem C_account_ordered_api_Report_in1 {M : List Nat} {w : World} (hM : MLt M w) {a : Report} (f_a_0 : InK .i64 a.id) (f_a_1 : InK .i64 a.source) (f_a_2 : InK .i64 a.account) (f_a_3 : InK .i64 a.made) (f_a_4 : InK .i64 a.about) (f_a_5 : InK .u8 a.kind) (f_a_6 : InK .i64 a.cents) (f_a_7 : InK .i64 a.of_) {b : Report} (f_b_0 : InK .i64 b.id) (f_b_1 : InK .i64 b.source) (f_b_2 : InK .i64 b.account) (f_b_3 : InK .i64 b.made) (f_b_4 : InK .i64 b.about) (f_b_5 : InK .u8 b.kind) (f_b_6 : InK .i64 b.cents) (f_b_7 : InK .i64 b.of_) {by__c : (List Nat)} {v_by__c_0 : Value} (f_by__c_0 : RdS fnE M w v_by__c_0 by__c) {b_by__c : Nat} (c_by__c : RdC M w b_by__c 0 [v_by__c_0]) {r0 : Int} (h : P.account_ordered_api_Report_in1 a b by__c = some r0) :
  Calls Tryd.prog 94 (List.toArray [Value.agg (List.toArray (vR a)), Value.agg (List.toArray (vR b)), vp b_by__c 0]) w fun e w' => e = .returned (vi r0) ∧ InK .i64 r0 ∧ Ext w w' := by
 have hI := Hp.start (Mu := []) hM
 refine calls_cw Tryd.func94 rfl Tryd.ntmps94 rfl ?_
 refine cw_seq (cw_regF (y_box hI rfl rfl rfl ?_))
 intro b1 w2 hI3 x4
 have hC6 := hI3.freezeRow 0 rfl
 have hI5 := hI3.erase 0
 refine y_box hI5 rfl rfl rfl ?_
 intro b7 w8 hI9 x10
 have hC12 := hI9.freezeRow 0 rfl
 have hI11 := hI9.erase 0
 refine s_as rfl rfl (Reg.nil (cw_seq (cw_seq (cw_regF (s_ld rfl ((c_by__c.adv hI11.adv).cells.at 0 rfl) Tryd.isAgg145 rfl (s_len rfl (f_by__c_0.adv hI11.adv) Tryd.underlying145 rfl (s_mv rfl rfl (Reg.nil ?_))))))))
 obtain ⟨j13, h14, h⟩ := bnd h
 refine cw_keep [3, 4, 9, 10, 11] rfl (cw_unitD 5 (ι := Unit) (fun _ => []) (fun _ => fun w15 => Hp w [] M [] w15 ∧ Adv (mm [] M) (mm [] M) w8 w15 ∧ (.inl ()) = j13) ?_ ?_)
 ·refine cw_block (cw_keep [11, 3, 4, 9, 10] rfl ?_)
  refine cw_loopM 1 (ι := Int) _ (fun x18 => [(11, vi x18)]) (fun x18 => x18) (fun x18 => fun w20 => Hp w [] M [] w20 ∧ Adv (mm [] M) (mm [] M) w8 w20 ∧ InK .i64 x18) 0 h14 ⟨hI11, (Adv.refl _ _), (by decide)⟩ (sb5 rfl rfl rfl rfl rfl) ?_
  rintro x18 w20 ⟨hI21, hA22, r19⟩ y23 h24 hR25
  refine cw_seq (cw_regF (s_lss rfl rfl rfl (Reg.nil (cw_seq (cw_cond rfl (fun hc26 => ?_) (fun hc26 => ?_))))))
  ·replace h24 := cdT hc26 h24
   refine cw_skip (cw_seq (cw_block (cw_seq (cw_regF ?_))))
   obtain ⟨y27, hy27, h24⟩ := bnd h24
   refine p_ia rfl rfl (f_by__c_0.adv hI21.adv) hy27 Tryd.underlying145 Tryd.sizeOf135 rfl ?_
   intro b28 o29 cs30 hR31 hC32
   obtain rfl := hR31
   refine s_ld rfl (hC32.cells.at 0 rfl) Tryd.isAgg135 rfl (s_as rfl rfl (Reg.nil (cw_seq ?_)))
   refine cw_regSea [0, 1, 3, 4] [2, 5, 6, 7] [] [] [] [] fol (by kernel_rfl) rfl (by kernel_rfl) rfl rfl ?_
   refine s_mv rfl rfl (s_lda rfl (hC6.adv (x10.trans ((hI9.eraseH 0).trans hA22))).cells Tryd.isAgg61 rfl Tryd.sizeOf61 rfl (s_mv rfl rfl (s_lda rfl (hC12.adv hA22).cells Tryd.isAgg61 rfl Tryd.sizeOf61 rfl (Reg.nilX ⟨rfl, rfl, rfl, ?_⟩))))
   intro w33 e34
   have hI35 := (Hp.start (Mu := []) hI21.mlt).ext e34
   refine SeaWalk.step [2] (by kernel_rfl) (AllL.cons ?_ (AllL.nil))
   refine ⟨_, [], rfl, RSub.nil, rfl, nodupB_spec rfl, ?_⟩
   simp only [relOut]
   obtain ⟨z36, hz36, h24⟩ := bnd h24
   refine s_callV rfl rfl rfl ?_
   refine (C_fn135 hI35.mlt f_a_0 f_a_1 f_a_2 f_a_3 f_a_4 f_a_5 f_a_6 f_a_7 hz36).mono ?_
   rintro _ w37 ⟨rfl, r39, e38⟩
   refine ⟨_, rfl, ?_⟩
   have hI40 := hI35.ext e38
   refine Reg.nil ⟨rfl, .inr hI40.kp, rfl, ?_⟩
   intro w41 e42
   have hI43 := hI40.ext e42
   refine SeaWalk.step [5] (by kernel_rfl) (AllL.cons ?_ (AllL.nil))
   refine ⟨_, [], rfl, RSub.nil, rfl, nodupB_spec rfl, ?_⟩
   simp only [relOut]
   obtain ⟨z44, hz44, h24⟩ := bnd h24
   refine s_callV rfl rfl rfl ?_
   refine (C_fn135 hI43.mlt f_b_0 f_b_1 f_b_2 f_b_3 f_b_4 f_b_5 f_b_6 f_b_7 hz44).mono ?_
   rintro _ w45 ⟨rfl, r47, e46⟩
   refine ⟨_, rfl, ?_⟩
   have hI48 := hI43.ext e46
   refine Reg.nil ⟨rfl, .inr hI48.kp, rfl, ?_⟩
   intro w49 e50
   have hI51 := hI48.ext e50
   refine SeaWalk.step [6] (by kernel_rfl) (AllL.cons ?_ (AllL.nil))
   refine ⟨_, [], rfl, RSub.nil, rfl, nodupB_spec rfl, ?_⟩
   simp only [relOut]
   obtain ⟨z52, hz53, h24⟩ := bnd h24
   refine s_call rfl Tryd.call72 rfl ((C_cmp_Compare_72 hI51.mlt r39 r47 hz53).mono ?_)
   rintro _ w54 ⟨rfl, r56, e55⟩
   refine ⟨_, rfl, ?_⟩
   have hI57 := hI51.ext e55
   refine Reg.nil ⟨rfl, .inr hI57.kp, rfl, ?_⟩
   intro w58 e59
   have hI60 := hI57.ext e59
   refine SeaWalk.step [7] (by kernel_rfl) (AllL.cons ?_ (AllL.nil))
   refine ⟨_, [], rfl, RSub.nil, rfl, nodupB_spec rfl, ?_⟩
   simp only [relOut]
   refine s_as rfl rfl (Reg.nil ⟨rfl, .inr hI60.kp, rfl, ?_⟩)
   intro w61 e62
   have hI63 := hI60.ext e62
   refine SeaWalk.done ?_
   have hI64 := hI21.join hI63
   refine cw_seq (cw_regF (s_mv rfl rfl (s_neq rfl rfl rfl (Reg.nil (cw_cond rfl (fun hc65 => ?_) (fun hc65 => ?_))))))
   ·replace h24 := cdT hc65 h24
    refine cw_seq (cw_regF (s_mv rfl rfl (s_as rfl rfl (Reg.nil (cw_ret ?_)))))
    obtain rfl := Option.some.inj h24
    obtain rfl := hR25 _ rfl
    replace h := elimR h
    obtain rfl := Option.some.inj h
    refine fin1 Tryd.results94 rfl ?_
    exact ⟨rfl, r56, hI64.kp⟩
   replace h24 := cdF hc65 h24
   refine cw_skip (cw_regF ?_)
   obtain ⟨n66, hn66, h24⟩ := bnd h24
   replace hn66 := chk_out hn66
   refine p_add rfl rfl rfl hn66 (s_mv rfl rfl (Reg.nil ?_))
   obtain rfl := Option.some.inj h24
   refine ⟨rfl, n66, ⟨⟨hI64, (hA22.trans ((Adv.of_ext e34).trans ((Adv.of_ext e38).trans ((Adv.of_ext e42).trans ((Adv.of_ext e46).trans ((Adv.of_ext e50).trans ((Adv.of_ext e55).trans ((Adv.of_ext e59).trans (Adv.of_ext e62))))))))), hn66.2⟩, rfl⟩, sb5 rfl rfl rfl rfl rfl⟩
  replace h24 := cdF hc26 h24
  refine cw_exit (exB_same ?_)
  obtain rfl := Option.some.inj h24
  obtain rfl := hR25 _ rfl
  refine ⟨rfl, (), ⟨hI21, hA22, rfl⟩, Sub.nil _⟩
 rintro _ w15 ⟨hI16, hA17, rfl⟩
 replace h := elimL h
 refine cw_seq (cw_regF (s_as rfl rfl (Reg.nil (cw_ret ?_))))
 obtain rfl := Option.some.inj h
 refine fin1 Tryd.results94 rfl ?_
 exact ⟨rfl, (by decide), hI16.kp⟩
end Go.Proofs.YtepjkmoipjeghaaDoor
namespace Go.Proofs
open Go.Shelf
def Tryd.laySortFunc_ren : Go.Shelf.Ren := ⟨fun | 6 => 93 | 15 => 98 | 14 => 97 | 28 => 107 | 29 => 108 | 20 => 99 | 21 => 100 | 22 => 101 | 23 => 102 | 24 => 103 | 25 => 104 | 26 => 105 | 27 => 106 | 46 => 109 | 47 => 110 | 48 => 111 | 49 => 112 | 50 => 113 | 57 => 114 | n => n, fun | 22 => 22 | 24 => 61 | 25 => 147 | 3 => 3 | 39 => 151 | 0 => 0 | 53 => 65 | 55 => 161 | 4 => 4 | 46 => 154 | 45 => 153 | 50 => 98 | 5 => 5 | 9 => 9 | 66 => 162 | 70 => 166 | 76 => 168 | 77 => 169 | n => n, fun | n => n⟩
theorem Tryd.laySortFunc : Go.Proofs.SlLaysF0.n6 Tryd.prog Tryd.laySortFunc_ren := {
  mixed := by kernel_rfl
  f6 := ⟨Tryd.f93.name, by decide, Tryd.func93.trans (congrArg some (by kernel_rfl))⟩
  f14 := ⟨Tryd.f97.name, by decide, Tryd.func97.trans (congrArg some (by kernel_rfl))⟩
  f15 := Tryd.func98.trans (congrArg some (by kernel_rfl))
  f20 := ⟨Tryd.f99.name, by decide, Tryd.func99.trans (congrArg some (by kernel_rfl))⟩
  f21 := ⟨Tryd.f100.name, by decide, Tryd.func100.trans (congrArg some (by kernel_rfl))⟩
  f22 := ⟨Tryd.f101.name, by decide, Tryd.func101.trans (congrArg some (by kernel_rfl))⟩
  f23 := ⟨Tryd.f102.name, by decide, Tryd.func102.trans (congrArg some (by kernel_rfl))⟩
  f24 := ⟨Tryd.f103.name, by decide, Tryd.func103.trans (congrArg some (by kernel_rfl))⟩
  f25 := ⟨Tryd.f104.name, by decide, Tryd.func104.trans (congrArg some (by kernel_rfl))⟩
  f26 := ⟨Tryd.f105.name, by decide, Tryd.func105.trans (congrArg some (by kernel_rfl))⟩
  f27 := ⟨Tryd.f106.name, by decide, Tryd.func106.trans (congrArg some (by kernel_rfl))⟩
  f28 := Tryd.func107.trans (congrArg some (by kernel_rfl))
  f29 := Tryd.func108.trans (congrArg some (by kernel_rfl))
  f46 := ⟨Tryd.f109.name, by decide, Tryd.func109.trans (congrArg some (by kernel_rfl))⟩
  f47 := Tryd.func110.trans (congrArg some (by kernel_rfl))
  f48 := Tryd.func111.trans (congrArg some (by kernel_rfl))
  f49 := ⟨Tryd.f112.name, by decide, Tryd.func112.trans (congrArg some (by kernel_rfl))⟩
  f50 := ⟨Tryd.f113.name, by decide, Tryd.func113.trans (congrArg some (by kernel_rfl))⟩
  f57 := ⟨Tryd.f114.name, by decide, Tryd.func114.trans (congrArg some (by kernel_rfl))⟩
  t0 := Tryd.underlying0
  a0 := Tryd.isAgg0
  z0 := Tryd.sizeOf0
  v0 := Tryd.zeroValue0
  t3 := Tryd.underlying3
  a3 := Tryd.isAgg3
  z3 := Tryd.sizeOf3
  v3 := Tryd.zeroValue3
  t4 := Tryd.underlying4
  a4 := Tryd.isAgg4
  z4 := Tryd.sizeOf4
  v4 := Tryd.zeroValue4
  t5 := Tryd.underlying5
  a5 := Tryd.isAgg5
  z5 := Tryd.sizeOf5
  v5 := Tryd.zeroValue5
  t9 := Tryd.underlying9
  a9 := Tryd.isAgg9
  z9 := Tryd.sizeOf9
  v9 := Tryd.zeroValue9
  t22 := Tryd.underlying22
  a22 := Tryd.isAgg22
  z22 := Tryd.sizeOf22
  v22 := Tryd.zeroValue22
  t25 := Tryd.underlying147
  a25 := Tryd.isAgg147
  z25 := Tryd.sizeOf147
  v25 := Tryd.zeroValue147
  t39 := Tryd.underlying151
  a39 := Tryd.isAgg151
  z39 := Tryd.sizeOf151
  v39 := Tryd.zeroValue151
  t45 := Tryd.underlying153
  a45 := Tryd.isAgg153
  z45 := Tryd.sizeOf153
  v45 := Tryd.zeroValue153
  t46 := Tryd.underlying154
  a46 := Tryd.isAgg154
  z46 := Tryd.sizeOf154
  v46 := Tryd.zeroValue154
  t50 := Tryd.underlying98
  a50 := Tryd.isAgg98
  z50 := Tryd.sizeOf98
  v50 := Tryd.zeroValue98
  t53 := Tryd.underlying65
  a53 := Tryd.isAgg65
  z53 := Tryd.sizeOf65
  v53 := Tryd.zeroValue65
  t55 := Tryd.underlying161
  a55 := Tryd.isAgg161
  z55 := Tryd.sizeOf161
  v55 := Tryd.zeroValue161
  t66 := Tryd.underlying162
  a66 := Tryd.isAgg162
  z66 := Tryd.sizeOf162
  v66 := Tryd.zeroValue162
  t70 := Tryd.underlying166
  a70 := Tryd.isAgg166
  z70 := Tryd.sizeOf166
  v70 := Tryd.zeroValue166
  t76 := Tryd.underlying168
  a76 := Tryd.isAgg168
  z76 := Tryd.sizeOf168
  v76 := Tryd.zeroValue168
  t77 := Tryd.underlying169
  a77 := Tryd.isAgg169
  z77 := Tryd.sizeOf169
  v77 := Tryd.zeroValue169 }
end Go.Proofs
namespace Go.Proofs.YtepjkmoipjeghaaDoor
open Go Go.Sx Go.RowKit Go.Sort Go.Shelf
variable [Trk]
/-- Draws are counted on. -/
@[reducible] def trkT : Trk := ⟨True⟩
def encR (r : Report) : List Value := [.int .i64 r.id, .int .i64 r.source, .int .i64 r.account, .int .i64 r.made, .int .i64 r.about, .int .u8 r.kind, .int .i64 r.cents, .int .i64 r.of_]
def InR (r : Report) : Prop := InK .i64 r.id ∧ InK .i64 r.source ∧ InK .i64 r.account ∧ InK .i64 r.made ∧ InK .i64 r.about ∧ InK .u8 r.kind ∧ InK .i64 r.cents ∧ InK .i64 r.of_
theorem chunks_rep {M : List Nat} {w : World} : ∀ {cs : List Value} {xs : List Report}, Chunks ReportE M w cs xs ↔ cs = xs.flatMap encR ∧ ∀ r ∈ xs, InR r
  | cs, [] => by
    constructor
    · intro h; exact ⟨h, fun _ h => by cases h⟩
    · rintro ⟨h, _⟩; exact h
  | cs, x :: xs => by
    constructor
    · rintro ⟨c, rest, he, hR, hr⟩
      obtain ⟨rfl, h0, h1, h2, h3, h4, h5, h6, h7⟩ := ReportE_R.1 hR
      obtain ⟨h8, h9⟩ := chunks_rep.1 hr
      refine ⟨by rw [he, h8]; rfl, fun r hr => ?_⟩
      rcases List.mem_cons.1 hr with rfl | hr
      · exact ⟨h0, h1, h2, h3, h4, h5, h6, h7⟩
      · exact h9 r hr
    · rintro ⟨he, hin⟩
      obtain ⟨h0, h1, h2, h3, h4, h5, h6, h7⟩ := hin x (List.mem_cons_self ..)
      exact ⟨encR x, xs.flatMap encR, by rw [he]; rfl, ReportE_R.2 ⟨rfl, h0, h1, h2, h3, h4, h5, h6, h7⟩, chunks_rep.2 ⟨rfl, fun r hr => hin r (List.mem_cons_of_mem _ hr)⟩⟩
theorem flat_get {α : Type} (enc : α → List Value) (h8 : ∀ x, (enc x).length = 8) : ∀ (xs : List α) (t : Nat), (xs.flatMap enc)[t]? = (xs[t / 8]?).bind fun x => (enc x)[t % 8]?
  | [], t => by simp
  | x :: xs, t => by
    rw [List.flatMap_cons]
    rcases Nat.lt_or_ge t 8 with h | h
    · rw [List.getElem?_append_left (by rw [h8]; exact h), show t / 8 = 0 by omega, show t % 8 = t by omega]; rfl
    · rw [List.getElem?_append_right (by rw [h8]; exact h), h8, flat_get enc h8 xs (t - 8), show t / 8 = (t - 8) / 8 + 1 by omega, show t % 8 = (t - 8) % 8 by omega]; rfl
theorem flatK_list {α : Type} [Inhabited α] (enc : α → List Value) (h8 : ∀ x, (enc x).length = 8) (d : Array α) : (flatK enc 8 d).toList = d.toList.flatMap enc := by
  refine List.ext_getElem? fun t => ?_
  rw [flat_get enc h8]
  unfold flatK
  rcases Nat.lt_or_ge t (d.size * 8) with h | h
  · have h1 : t / 8 < d.size := by omega
    have h2 : t % 8 < 8 := by omega
    simp only [Array.getElem?_toList, Array.getElem?_map, Array.getElem?_range, h, Array.getElem?_eq_getElem h1]
    have h3 : t % 8 < (enc d[t / 8]).length := by rw [h8]; exact h2
    simp [h1, getElem!_pos, h3]
  · have h1 : d.size ≤ t / 8 := by omega
    simp only [Array.getElem?_toList, Array.getElem?_eq_none h1, Option.bind_none]
    simp [h]
theorem put_takeI {ys : List Value} {cur : Array Value} (h : ys.length ≤ cur.size) : (putCells id 0 ys.toArray cur).toList.take ys.length = ys := by
  apply List.ext_getElem?
  intro i
  rw [List.getElem?_take]
  split
  · rename_i hi
    have hc : cur[i]? = some cur[i] := Array.getElem?_eq_getElem (by omega)
    simp only [putCells, Array.getElem?_toList, Array.getElem?_mapIdx, hc, Option.map_some]
    rw [if_pos ⟨by omega, by simpa using hi⟩]
    simp [hi]
  · rename_i hi
    rw [List.getElem?_eq_none (by omega)]
theorem kp_sortK {α : Type} [Inhabited α] {enc : α → List Value} {k : Nat} {w : World} {g n : Nat} {d : Array α} {os : Array Obj} : Kp [g] w (sortWorldK enc k w g 0 n d os) := by
  refine ⟨rfl, rfl, rfl, by simp [sortWorldK, putRowK], fun j hj hm => ?_, fun _ => show w.drawn ≤ w.drawn + n from Nat.le_add_right _ _⟩
  have hne : ¬ g = j := fun e => hm (by simp [e])
  unfold sortWorldK putRowK
  rw [heap_grow_old _ _ (by simpa using hj)]
  show (w.heap.modify g (onCells (putCells id 0 (flatK enc k d))))[j]? = _
  rw [Array.getElem?_modify, if_neg hne]
/-- What sorting asks of the function that holds reports against each other. -/
def SortOk (x : List Report) (cmp : Report → Report → Option Int) (cf : Report → Report → Int) : Prop :=
  (∀ a b, a ∈ x → b ∈ x → cmp a b = some (cf a b)) ∧ SWO (ltOf fun a b : { r : Report // r ∈ x } => cf a.1 b.1) ∧ ∀ a b, a ∈ x → b ∈ x → ¬ cf a b < 0 → ¬ cf b a < 0 → a = b
open Classical in
noncomputable def P.slices_SortFunc_93 (x : List Report) (cmp : Report → Report → Option Int) : Option (List Report) :=
  if h : x.length < 4611686018427387904 ∧ ∃ cf, SortOk x cmp cf then some (x.mergeSort fun a b => !decide (h.2.choose b a < 0)) else none
@[ext] structure ElR (x : List Report) where
  r : Report
  mem : r ∈ x
  inn : InR r
def ElR.e {x : List Report} (a : ElR x) : List Value := encR a.r
theorem C_slices_SortFunc_93 {M : List Nat} {w : World} {v_x : Value} (hM : MLt M w) (_ : ∀ b ∈ ob v_x, b ∉ M) {x : List Report} (p_x : Own ReportE 61 0 M w v_x x) {v_cmp : Value} {cmp : Report → Report → Option Int}
    (hf : ∀ (x0 x1 : Report) (r : Int) (w1 : World), @Kp trkT (ob v_x) w w1 → InK .i64 x0.id → InK .i64 x0.source → InK .i64 x0.account → InK .i64 x0.made → InK .i64 x0.about → InK .u8 x0.kind → InK .i64 x0.cents → InK .i64 x0.of_ → InK .i64 x1.id → InK .i64 x1.source → InK .i64 x1.account → InK .i64 x1.made → InK .i64 x1.about → InK .u8 x1.kind → InK .i64 x1.cents → InK .i64 x1.of_ → cmp x0 x1 = some r →
      CallsV Tryd.prog v_cmp [.agg (List.toArray [.int .i64 x0.id, .int .i64 x0.source, .int .i64 x0.account, .int .i64 x0.made, .int .i64 x0.about, .int .u8 x0.kind, .int .i64 x0.cents, .int .i64 x0.of_]), .agg (List.toArray [.int .i64 x1.id, .int .i64 x1.source, .int .i64 x1.account, .int .i64 x1.made, .int .i64 x1.about, .int .u8 x1.kind, .int .i64 x1.cents, .int .i64 x1.of_])] w1 fun e w2 => e = .returned (Value.int IntKind.i64 r) ∧ InK IntKind.i64 r ∧ @Ext trkT w1 w2)
    {r0 : List Report} (h : P.slices_SortFunc_93 x cmp = some r0) :
    Calls Tryd.prog 93 (List.toArray [v_x, v_cmp]) w fun e w' => e = .returned (Value.tuple #[]) ∧ (Own ReportE 61 0 M w' v_x r0 ∧ (∀ b ∈ ob v_x, b ∈ ob v_x ∨ w.heap.size ≤ b) ∧ Kp (ob v_x) w w') := by
  unfold P.slices_SortFunc_93 at h
  split at h
  · rename_i hok
    have hr := Option.some.inj h
    obtain ⟨hlen, hex⟩ := hok
    have hok := hex.choose_spec
    generalize hex.choose = cf at hr hok
    obtain ⟨hc0, hO, hT⟩ := hok
    have none_ : ∀ a n, v_x = .slice a 0 n → x = [] → Calls Tryd.prog 93 (List.toArray [v_x, v_cmp]) w fun e w' => e = .returned (Value.tuple #[]) ∧ (Own ReportE 61 0 M w' v_x r0 ∧ (∀ b ∈ ob v_x, b ∈ ob v_x ∨ w.heap.size ≤ b) ∧ Kp (ob v_x) w w') := by
      rintro a n rfl rfl
      have hc := AnyF.slices_SortFunc_none (P := Tryd.prog) (ρ := Tryd.laySortFunc_ren) Tryd.laySortFunc a n v_cmp w
      change Calls Tryd.prog 93 _ _ _ at hc
      refine hc.mono ?_
      rintro e w' ⟨rfl, rfl⟩
      subst hr
      exact ⟨rfl, by simpa using p_x, fun b hb => .inl hb, Kp.refl _ _⟩
    have p_x0 := p_x
    rcases p_x with ⟨a, rfl, rfl⟩ | ⟨g, cap, cur, rfl, h1, h2, h3, h4, h5, h6⟩
    · exact none_ a _ rfl rfl
    · by_cases hx : x = []
      · subst hx; exact none_ _ _ rfl rfl
      · have hg := heap_lt h2
        obtain ⟨h7, h8⟩ := chunks_rep.1 h6
        obtain ⟨r1, hr1⟩ := List.exists_mem_of_ne_nil x hx
        letI : Inhabited (ElR x) := ⟨⟨r1, hr1, h8 r1 hr1⟩⟩
        obtain ⟨d, hd⟩ : ∃ d : List (ElR x), d.map ElR.r = x := ⟨x.attach.map fun r => ⟨r.1, r.2, h8 r.1 r.2⟩, by rw [List.map_map]; exact List.attach_map_subtype_val x⟩
        have hdl : d.length = x.length := by have := congrArg List.length hd; simpa using this
        have h8' : ∀ a : ElR x, a.e.length = 8 := fun _ => rfl
        have hfl : d.flatMap ElR.e = x.flatMap encR := by have := congrArg (List.flatMap encR) hd; rw [List.flatMap_map] at this; exact this
        have hH : HoldsK (ElR.e (x := x)) 8 w g 0 d.toArray := fun j hj => by
          have hj' : j < d.length * 8 := by simpa using hj
          have hv : (flatK ElR.e 8 d.toArray).toList = x.flatMap encR := by rw [flatK_list _ h8', ← hfl]
          have hq : cur.toList[j]? = some ((flatK ElR.e 8 d.toArray)[j]!) := by
            have e1 := congrArg (fun l => l[j]?) h7
            simp only [List.getElem?_take, show j < x.length * ReportE.n by show j < x.length * 8; omega, if_true] at e1
            rw [e1, ← hv, Array.getElem?_toList, getElem!_pos (flatK ElR.e 8 d.toArray) j hj, Array.getElem?_eq_getElem hj]
          constructor
          · have : w.cell? ⟨g, 0 + j, none⟩ = cur[j]? := by simp [World.cell?, h2]
            rw [this, ← Array.getElem?_toList, hq]; rfl
          · simp [World.frozen?, h2]
        obtain ⟨gf, cb, rfl, eg, _⟩ := hf r1 r1 (cf r1 r1) w (@Kp.refl trkT _ _) (h8 r1 hr1).1 (h8 r1 hr1).2.1 (h8 r1 hr1).2.2.1 (h8 r1 hr1).2.2.2.1 (h8 r1 hr1).2.2.2.2.1 (h8 r1 hr1).2.2.2.2.2.1 (h8 r1 hr1).2.2.2.2.2.2.1 (h8 r1 hr1).2.2.2.2.2.2.2
          (h8 r1 hr1).1 (h8 r1 hr1).2.1 (h8 r1 hr1).2.2.1 (h8 r1 hr1).2.2.2.1 (h8 r1 hr1).2.2.2.2.1 (h8 r1 hr1).2.2.2.2.2.1 (h8 r1 hr1).2.2.2.2.2.2.1 (h8 r1 hr1).2.2.2.2.2.2.2 (hc0 r1 r1 hr1 hr1)
        have hcmp : CmpLays Tryd.prog gf cb (ElR.e (x := x)) 8 (fun a b => cf a.r b.r) g 0 d.toArray.size w := fun m os dk _ a b => by
          obtain ⟨a, ha, a0, a1, a2, a3, a4, a5, a6, a7⟩ := a
          obtain ⟨b, hb, b0, b1, b2, b3, b4, b5, b6, b7⟩ := b
          obtain ⟨gf', cb', hgc, _, hC⟩ := hf a b (cf a b) (sortWorldK ElR.e 8 w g 0 m dk os) (@Kp.mono trkT _ _ _ _ (@kp_sortK trkT _ _ _ _ _ _ _ _ _) fun c hc => .inl (by simpa [ob] using hc)) a0 a1 a2 a3 a4 a5 a6 a7 b0 b1 b2 b3 b4 b5 b6 b7 (hc0 a b ha hb)
          cases hgc
          refine hC.mono ?_
          rintro e w' ⟨rfl, _, hx⟩
          obtain ⟨q, os', he⟩ := @Ext.grown trkT _ _ hx trivial
          exact ⟨rfl, q, os', he⟩
        have hO' : SWO (ltOf fun a b : ElR x => cf a.r b.r) :=
          ⟨fun a => hO.irrefl ⟨a.r, a.mem⟩, fun a b c => hO.trans ⟨a.r, a.mem⟩ ⟨b.r, b.mem⟩ ⟨c.r, c.mem⟩, fun a b c => hO.ntrans ⟨a.r, a.mem⟩ ⟨b.r, b.mem⟩ ⟨c.r, c.mem⟩⟩
        have hc := AnyQ.slices_SortFunc_total Tryd.laySortFunc 8 Tryd.isAgg61 Tryd.sizeOf61 (ElR.e (x := x)) h8' (fun a v hv => by
          simp [ElR.e, encR] at hv
          rcases hv with rfl | rfl | rfl | rfl | rfl | rfl | rfl | rfl <;> rfl) (fun a b => cf a.r b.r) hO' gf cb g 0 (cap + 1) d.toArray w eg hcmp hH hg (by simpa [hdl] using hlen)
          (fun a b h1 h2 => ElR.ext (hT a.r b.r a.mem b.mem (by simpa [ltOf] using h1) (by simpa [ltOf] using h2)))
        change Calls Tryd.prog 93 _ _ _ at hc
        rw [show d.toArray.size = x.length by simp [hdl]] at hc
        refine hc.mono ?_
        rintro e w' ⟨rfl, n, os, rfl⟩
        obtain ⟨ys, hys⟩ : ∃ ys, ys = d.mergeSort fun a b : ElR x => !(ltOf fun a b : ElR x => cf a.r b.r) b a := ⟨_, rfl⟩
        have hys' : ys.map ElR.r = r0 := by
          have h9 := List.map_mergeSort (r := fun a b : ElR x => !(ltOf fun a b : ElR x => cf a.r b.r) b a) (s := fun a b => !decide (cf b a < 0)) (f := ElR.r) (l := d) fun a _ b _ => rfl
          rw [hd, hr] at h9
          rw [hys]; exact h9
        have hyl : ys.length = x.length := by rw [hys, List.length_mergeSort, hdl]
        have hrl : r0.length = x.length := by rw [← hys', List.length_map, hyl]
        have hW : (d.toArray.toList.mergeSort fun a b : ElR x => !(ltOf fun a b : ElR x => cf a.r b.r) b a).toArray = ys.toArray := by rw [hys]
        rw [hW]
        have hkp : Kp [g] w (sortWorldK (ElR.e (x := x)) 8 w g 0 n ys.toArray os) := kp_sortK
        have hin : ∀ r ∈ r0, InR r := fun r hr' => by
          rw [← hys'] at hr'
          obtain ⟨a, _, rfl⟩ := List.mem_map.1 hr'
          exact a.inn
        have hfl2 : (flatK (ElR.e (x := x)) 8 ys.toArray).toList = r0.flatMap encR := by have h9 := congrArg (List.flatMap encR) hys'; rw [List.flatMap_map] at h9; rw [flatK_list _ h8']; exact h9
        have hfs : (flatK (ElR.e (x := x)) 8 ys.toArray).size = x.length * 8 := by simp [hyl]
        refine ⟨rfl, .inr ⟨g, cap, putCells id 0 (flatK (ElR.e (x := x)) 8 ys.toArray) cur, by rw [hrl], Nat.zero_le _, ?_, by rw [hrl]; exact h3, h4, ?_, ?_⟩, fun b hb => .inl hb, hkp.mono fun b hb => .inl (by simpa [ob] using hb)⟩
        · unfold sortWorldK putRowK
          rw [heap_grow_old _ _ (by simpa using hg)]
          show (w.heap.modify g (onCells (putCells id 0 (flatK ElR.e 8 ys.toArray))))[g]? = _
          rw [Array.getElem?_modify, if_pos rfl, h2]; rfl
        · rw [← h5]; simp [putCells]
        · refine chunks_rep.2 ⟨?_, hin⟩
          have h9 := put_takeI (ys := (flatK (ElR.e (x := x)) 8 ys.toArray).toList) (cur := cur) (by
            rw [Array.length_toList, hfs, h5]
            show x.length * 8 ≤ (cap + 1) * 8
            omega)
          rw [show (flatK (ElR.e (x := x)) 8 ys.toArray).toList.toArray = flatK (ElR.e (x := x)) 8 ys.toArray by simp, Array.length_toList, hfs] at h9
          show (putCells id 0 (flatK ElR.e 8 ys.toArray) cur).toList.take (r0.length * 8) = _
          rw [hrl, h9, hfl2]
  · cases h
end Go.Proofs.YtepjkmoipjeghaaDoor
set_option maxRecDepth 20000
namespace Go.Proofs.YtepjkmoipjeghaaDoor
open Go Go.Sx Go.RowKit
variable [Trk]
noncomputable def P.account_ordered_74 (l : (List Report)) (by_ : (List Nat)) : Option (List Report) :=
  Option.bind (P.slices_SortFunc_93 l (fun x0_ x1_ => P.account_ordered_api_Report_in1 x0_ x1_ by_)) fun l7 => some l7
theorem C_account_ordered_74 {M : List Nat} {w : World} {v_l : Value} (hM : MLt M w) (hd : ∀ b ∈ ob v_l, b ∉ M) {l : (List Report)} (p_l : Own ReportE 61 0 M w v_l l) {by_ : (List Nat)} {v_by__0 : Value} (f_by__0 : RdS fnE (ob v_l ++ M) w v_by__0 by_) {r0 : (List Report)} (h : P.account_ordered_74 l by_ = some r0) :
  Calls Tryd.prog 74 (List.toArray [v_l, v_by__0]) w fun e w' => ∃ v0_0 : Value, e = .returned (v0_0) ∧ (Own ReportE 61 0 M w' v0_0 r0 ∧ (∀ b ∈ ob v0_0, b ∈ ob v_l ∨ w.heap.size ≤ b) ∧ Kp (ob v_l) w w') := by
 have hI := Hp.startOwn hM hd p_l
 refine calls_cw Tryd.func74 rfl Tryd.ntmps74 rfl ?_
 refine cw_seq (cw_regF (y_box hI rfl (RdS.cells1 f_by__0) rfl ?_))
 intro b1 w2 hI3 x4
 have hC6 := hI3.freezeRow 0 rfl
 have hI5 := hI3.erase 0
 refine s_as rfl rfl (Reg.nil (cw_seq (cw_regF (s_mv rfl rfl (s_mf rfl rfl ?_)))))
 obtain ⟨l7, hz8, h⟩ := bnd h
 refine s_call rfl Tryd.call93 rfl ?_
 have la := Hp.lendA (σ := [ownR (ob v_l) ReportE 61 v_l l]) (M := M) (w := w2) 0 rfl
 have q1 := hI5.lendM 0 rfl
 have q2 : @RdS trkT Nat (@fnE trkT) _ w2 v_by__0 by_ := (f_by__0.adv hI5.adv).adv la
 have q3 := hC6.adv la
 refine (C_slices_SortFunc_93 (hI5.erase 0).mlt (hI5.apart 0 rfl) (hI5.lendOwn 0 rfl) (fun a0 a1 r w9 e9 f0 f1 f2 f3 f4 f5 f6 f7 f8 f9 f10 f11 f12 f13 f14 f15 hr => by
  letI := trkT
  exact CallsV.ofL Tryd.call94 rfl (C_account_ordered_api_Report_in1 (q1.ext e9) f0 f1 f2 f3 f4 f5 f6 f7 f8 f9 f10 f11 f12 f13 f14 f15 (q2.adv (Adv.lent e9)) (q3.adv (Adv.lent e9)) hr)) hz8).mono ?_
 rintro _ w9 ⟨rfl, hf11⟩
 refine ⟨_, rfl, ?_⟩
 have hI12 := hI5.took 0 rfl hf11
 refine Reg.nil (cw_seq (cw_regF (s_mv rfl rfl (s_as rfl rfl (Reg.nil (cw_ret ?_))))))
 obtain rfl := Option.some.inj h
 refine fin1 Tryd.results74 rfl ?_
 exact ⟨_, rfl, (hI12.ownBack 0 rfl)⟩
end Go.Proofs.YtepjkmoipjeghaaDoor
namespace Go.Sx
open Go Go.RowKit Go.WideShapes
variable [Trk]
def Bridge (P : Program) (t : TypeId) {α : Type} (E : Enc α) : Prop :=
  ∀ (H : Type) (enc : TypeId × Value → H) (w : World) (n : Nat) (cs : List Value) (x : DataW H × List MemPlace), DataW.trod enc P w 0 (fun _ => true) true n t cs = some x → ∃ a, E.R [] w cs a
theorem wf_InK {k : IntKind} {n : Int} (h : (Lit.int k n).wf = true) : InK k n := by
  simpa [Lit.wf, InK] using h
theorem bridge_int {P : Program} {t : TypeId} {k : IntKind} (ht : P.underlying t = some (.int k)) : Bridge P t (intE k) := fun H enc w n cs x h => by
  obtain ⟨r, e1, _, hw⟩ := DataW.trod_int ht h
  exact ⟨r, e1, wf_InK hw⟩
theorem bridge_map {P : Program} {t : TypeId} {α β : Type} {f : β → α} {E : Enc α} (g : α → β) (hg : ∀ a, f (g a) = a) (B : Bridge P t E) : Bridge P t (mapE f E) := fun H enc w n cs x h => by
  obtain ⟨a, ha⟩ := B H enc w n cs x h
  exact ⟨g a, by show E.R [] w cs (f (g a)); rw [hg]; exact ha⟩
theorem bridge_slice {P : Program} {t e : TypeId} {α : Type} {E : Enc α} (ht : P.underlying t = some (.slice e)) (hc : P.cellsOf e = E.n) (B : Bridge P e E) : Bridge P t (sliceE E) := fun H enc w n cs x h => by
  rcases Go.Deep.open_slice ht h with ⟨rfl, _⟩ | ⟨a, len, cap, m, k, D, Pl, rfl, hb, hl, hm, hmm, _, hel⟩
  · exact ⟨[], .slice none 0 0, rfl, RdS.nil _ _ _⟩
  · simp only [if_true] at hmm
    rw [hmm] at hel
    have hx : ∀ i, ∃ y : Option α, i < len → ∃ cs' a', y = some a' ∧ E.R [] w cs' a' ∧ w.cells? 0 (a.add (i * P.cellsOf e)) (P.cellsOf e) = some cs' := fun i => by
      by_cases hi : i < len
      · obtain ⟨cs', h1, h2⟩ := hel i (by omega)
        obtain ⟨a', ha⟩ := B H enc w k cs' _ h2
        exact ⟨some a', fun _ => ⟨cs', a', rfl, ha, h1⟩⟩
      · exact ⟨none, fun h => absurd h hi⟩
    by_cases h0 : len = 0
    · subst h0
      exact ⟨[], .slice (some a) 0 cap, rfl, some a, cap, rfl, Nat.zero_le _, hm, .inl rfl⟩
    have hlist : ∃ xs : List α, xs.length = len ∧ ∀ i (hi : i < xs.length), ∃ cs', E.R [] w cs' xs[i] ∧ w.cells? 0 (a.add (i * P.cellsOf e)) (P.cellsOf e) = some cs' := by
      have h1 : ∀ i (hi : i < len), ∃ a', ∃ cs', E.R [] w cs' a' ∧ w.cells? 0 (a.add (i * P.cellsOf e)) (P.cellsOf e) = some cs' := fun i hi => by
        obtain ⟨y, hy⟩ := hx i
        obtain ⟨cs', a', _, h2, h3⟩ := hy hi
        exact ⟨a', cs', h2, h3⟩
      refine ⟨List.ofFn fun i : Fin len => (h1 i.1 i.2).choose, by simp, fun i hi => ?_⟩
      have hi' : i < len := by simpa using hi
      simpa using (h1 i hi').choose_spec
    obtain ⟨xs, hxl, hxs⟩ := hlist
    have hpos := E.pos
    have hspot : ∃ b o, a = ⟨b, o, none⟩ := by
      obtain ⟨cs', hR, hcc⟩ := hxs 0 (by omega)
      obtain ⟨_, hlen, hcell⟩ := World.cells?_some hcc
      have hn := E.len hR
      have h00 := hcell 0 (by omega)
      rw [Nat.zero_mul] at h00
      have ha : (a.add 0).add 0 = a := by simp [Addr.add]
      rw [ha, List.getElem?_eq_getElem (by omega)] at h00
      obtain ⟨b, o, s⟩ := a
      have hs : s = none := World.cell?_spot h00
      exact ⟨b, o, by rw [hs]⟩
    obtain ⟨b, o, rfl⟩ := hspot
    have hlt : b < w.heap.size := by
      obtain ⟨cs', hR, hcc⟩ := hxs 0 (by omega)
      obtain ⟨_, hlen, hcell⟩ := World.cells?_some hcc
      have hn := E.len hR
      have h00 := hcell 0 (by omega)
      rw [List.getElem?_eq_getElem (by omega)] at h00
      have := cell_lt h00
      simpa [add_none] using this
    refine ⟨xs, .slice (some ⟨b, o, none⟩) len cap, rfl, some ⟨b, o, none⟩, cap, by rw [hxl], by omega, hm, .inr ⟨b, o, rfl, by simp, hlt, fun i hi => ?_⟩⟩
    obtain ⟨cs', hR, hcc⟩ := hxs i hi
    obtain ⟨_, hlen, hcell⟩ := World.cells?_some hcc
    refine ⟨cs', hR, fun j u hj => ?_⟩
    have hjl : j < P.cellsOf e := by
      rcases Nat.lt_or_ge j cs'.length with h | h
      · omega
      · simp [List.getElem?_eq_none h] at hj
    have := hcell j hjl
    rw [add_none, add_none, hj, hc] at this
    exact this
/-- The fields from here on. -/
def FieldsB (P : Program) (N : Nat) (fs : List Field) {α : Type} (E : Enc α) : Prop :=
  ∀ (H : Type) (enc : TypeId × Value → H) (w : World) (cs : List Value), cs.length = N →
    (∀ f ∈ fs, ∃ (n : Nat) (x : DataW H × List MemPlace), DataW.trod enc P w 0 (fun _ => true) true n f.type ((cs.drop f.offset).take (P.cellsOf f.type)) = some x) →
    ∃ a, E.R [] w (cs.drop ((fs.head?.map (·.offset)).getD 0)) a
theorem fb_last {P : Program} {N : Nat} {f : Field} {α : Type} {E : Enc α} (B : Bridge P f.type E) (hN : f.offset + P.cellsOf f.type = N) : FieldsB P N [f] E := fun H enc w cs hl h => by
  obtain ⟨n, x, hx⟩ := h f (by simp)
  have : (cs.drop f.offset).take (P.cellsOf f.type) = cs.drop f.offset := List.take_of_length_le (by rw [List.length_drop]; omega)
  rw [this] at hx
  exact B H enc w n _ x hx
theorem fb_cons {P : Program} {N : Nat} {f g : Field} {r : List Field} {α β : Type} {E : Enc α} {F : Enc β} (B : Bridge P f.type E) (hN : f.offset + P.cellsOf f.type = g.offset) (R : FieldsB P N (g :: r) F) : FieldsB P N (f :: g :: r) (prodE E F) :=
  fun H enc w cs hl h => by
    obtain ⟨n, x, hx⟩ := h f (by simp)
    obtain ⟨a, ha⟩ := B H enc w n _ x hx
    obtain ⟨b, hb⟩ := R H enc w cs hl fun f' hf' => h f' (List.mem_cons_of_mem _ hf')
    refine ⟨(a, b), (cs.drop f.offset).take (P.cellsOf f.type), cs.drop g.offset, ?_, ha, hb⟩
    show cs.drop f.offset = _
    rw [← hN, ← List.drop_drop, List.take_append_drop]
theorem bridge_struct {P : Program} {t : TypeId} {f : Field} {r : List Field} {α : Type} {E : Enc α} (ht : P.underlying t = some (.struct (f :: r).toArray)) (h0 : f.offset = 0) (F : FieldsB P (P.cellsOf t) (f :: r) E) : Bridge P t E := fun H enc w n cs x h => by
  obtain ⟨xs, m, _, _, hl, hlen, hf⟩ := DataW.trod_struct ht h
  obtain ⟨a, ha⟩ := F H enc w cs hl fun g hg => by
    obtain ⟨i, hi, rfl⟩ := List.getElem_of_mem hg
    have hi' : i < xs.length := by rw [hlen]; simpa using hi
    have := hf i (f :: r)[i] (by simp [List.getElem?_eq_getElem hi])
    rw [List.getElem?_eq_getElem hi'] at this
    exact ⟨m, _, this⟩
  exact ⟨a, by simpa [h0] using ha⟩
/-- An argument, opened. -/
theorem open_arg {P : Program} {t : TypeId} {α : Type} {E : Enc α} (B : Bridge P t E) {H : Type} {enc : TypeId × Value → H} {w : World} {v : Value} {d : DataW H} {p : List MemPlace} (h : DataW.Trod enc P w 0 (fun _ => true) true t v d p) : ∃ a, E.R [] w v.cells.toList a := by
  obtain ⟨n, hn⟩ := h
  exact B H enc w n _ _ hn
end Go.Sx
namespace Go.Sx
open Go Go.RowKit Go.ChangeMaps
variable [Trk]
/-- Asking among keys, in whatever world. -/
theorem findAsking_all {P : Program} {k : TypeId} (heq : ∀ (w : World) {x y : Value} {lx ly : Lit}, keyOf P k x = some lx → keyOf P k y = some ly → ∃ r : Bool, (Op.equal k x y).run P w = .ok r w ∧ (r = true ↔ lx = ly)) {x : Value} {lx : Lit} (hx : keyOf P k x = some lx) :
    ∀ (es : List MapEntry) (i : Nat), (∀ e ∈ es, ∃ l, keyOf P k e.key = some l) →
      ((∀ w, (Instr.findAsking k x es i).run P w = .ok none w) ∧ ∀ e ∈ es, keyOf P k e.key ≠ some lx) ∨
      ∃ j e, (∀ w, (Instr.findAsking k x es i).run P w = .ok (some (i + j, e.val)) w) ∧ es[j]? = some e ∧ keyOf P k e.key = some lx
  | [], i, _ => Or.inl ⟨fun w => by simp [Instr.findAsking], by simp⟩
  | e :: es, i, hall => by
    obtain ⟨l, hl⟩ := hall e (by simp)
    by_cases c : lx = l
    · refine .inr ⟨0, e, fun w => ?_, rfl, by rw [hl, c]⟩
      obtain ⟨r, hr, hiff⟩ := heq w hx hl
      have : r = true := hiff.2 c
      subst this
      simp [Instr.findAsking, hr]
    · have hr : ∀ w, (Op.equal k x e.key).run P w = .ok false w := fun w => by
        obtain ⟨r, hr, hiff⟩ := heq w hx hl
        have : r = false := by
          cases r with
          | false => rfl
          | true => exact absurd (hiff.1 rfl) c
        subst this; exact hr
      rcases findAsking_all heq hx es (i + 1) (fun y hy => hall y (by simp [hy])) with ⟨h1, h2⟩ | ⟨j, e', h1, h2, h3⟩
      · refine .inl ⟨fun w => by simp [Instr.findAsking, hr, h1], fun y hy => ?_⟩
        rcases List.mem_cons.1 hy with rfl | hy
        · rw [hl]; exact fun h => c (Option.some.inj h).symm
        · exact h2 y hy
      · exact .inr ⟨j + 1, e', fun w => by simp [Instr.findAsking, hr, h1, Nat.add_assoc, Nat.add_comm 1 j], by simpa using h2, h3⟩
theorem key2 {P : Program} {t u : TypeId} {q : IntKind} {f0 f1 : Field} (hu : P.underlying t = some (.struct #[f0, f1])) (h0 : f0.type = u) (h1 : f1.type = u) (o0 : f0.offset = 0) (o1 : f1.offset = 1) (n0 : (f0.name != "_") = true) (n1 : (f1.name != "_") = true)
    (hk : P.underlying u = some (.int q)) (hc : P.cellsOf t = 2) (hcu : P.cellsOf u = 1) (hty : P.keyType t = true) (hsz : 0 < P.types.size) {x y : Int} (hx : InK q x) (hy : InK q y) : ∃ l, keyOf P t (.agg (List.toArray [.int q x, .int q y])) = some l := by
  have w1 : ∀ {z : Int}, InK q z → (Lit.int q z).wf = true := fun {z} h => by simp only [Lit.wf, decide_eq_true_eq, Bool.and_eq_true]; exact h
  have hl : ∀ (n : Nat) {z : Int}, InK q z → P.keyLits (n + 1) u [.int q z] = some [.int q z] := fun n {z} h => by
    unfold Program.keyLits
    rw [hk]; simp [w1 h]
  have hs : ∀ n : Nat, P.keyLits (n + 1 + 1) t [.int q x, .int q y] = some [.int q x, .int q y] := fun n => by
    unfold Program.keyLits
    rw [hu]
    have e0 : ((List.drop 0 [Value.int q x, Value.int q y]).take 1) = [Value.int q x] := rfl
    have e1 : ((List.drop 1 [Value.int q x, Value.int q y]).take 1) = [Value.int q y] := rfl
    simp [hc, n0, n1, h0, h1, o0, o1, hcu, hl n hx, hl n hy]
  obtain ⟨n, hn⟩ : ∃ n, P.types.size + 1 = n + 1 + 1 := by
    refine ⟨P.types.size - 1, ?_⟩
    omega
  refine ⟨.string (keyBytes [.int q x, .int q y]), ?_⟩
  unfold keyOf
  rw [hu]
  have hf : (Value.agg (List.toArray [Value.int q x, Value.int q y])).formed P t = true := by simp [Value.formed, hu, hc]
  simp only [hty, hf, Bool.and_self, if_true]
  rw [hn]
  show (P.keyLits (n + 1 + 1) t [.int q x, .int q y]).map _ = _
  rw [hs n]; rfl
/-- Keys that are structures. -/
def deepKy {P : Program} {kt : TypeId} {κ : Type} (hl : laidOutB P = true) {m : Nat} (hm : m + 1 ≤ 10000) (hrow : kt < P.types.size) (hk : P.keyTypeAt m kt = true) (hwide : (match P.underlying kt with | some (.array _ _) | some (.struct _) => true | _ => false) = true)
    (val : κ → Value) (ok : κ → Prop) (hv : ∀ {a}, ok a → ∃ l, keyOf P kt (val a) = some l) (hi : ∀ {a b : κ}, ok a → ok b → val a = val b → a = b) : Ky P kt κ where
  val := val
  ok := ok
  inj := hi
  check := fun ha w em => by
    obtain ⟨l, hl'⟩ := hv ha
    exact (deep_law_laid hl hm hrow hk hwide).check w em hl'
  find := fun {a} ha es hes => by
    obtain ⟨l, hl'⟩ := hv ha
    have hall : ∀ e ∈ es, ∃ l, keyOf P kt e.key = some l := fun e he => by
      obtain ⟨b, hb, h⟩ := hes e he
      rw [h]; exact hv hb
    have hwf : ∀ w, (Instr.findKey kt (val a) es).run P w = (Instr.findAsking kt (val a) es 0).run P w := fun w => run_findKey_eq w hwide _ _
    rcases findAsking_all (fun w {_ _ _ _} h1 h2 => run_equal_deep w (by omega) hk hwide h1 h2) hl' es 0 hall with ⟨h1, h2⟩ | ⟨j, e0, h1, h2, h3⟩
    · exact .inl ⟨fun w => by rw [hwf]; exact h1 w, fun y hy e1 => h2 y hy (by rw [e1]; exact hl')⟩
    · exact .inr ⟨j, e0, fun w => by rw [hwf]; simpa using h1 w, h2, (deep_law_laid hl hm hrow hk hwide).inj h3 hl'⟩
  stays := fun ha w => by
    obtain ⟨l, hl'⟩ := hv ha
    exact (deep_law_laid hl hm hrow hk hwide).stays w hl'
section
variable {P : Program} {kt : TypeId} {κ α : Type} {K : Ky P kt κ} {E : Enc α} {ag : Bool}
/-- The entry of a key, by its stamp. -/
def StampAt (K : Ky P kt κ) (w : World) (b st : Nat) (a : κ) : Prop := ∃ es c, w.heap[b]? = some (.map es c) ∧ ∃ (j : Nat) (e : MapEntry), es.toList[j]? = some e ∧ e.born = st ∧ e.key = K.val a
variable [DecidableEq κ]
/-- A map of one's own, an entry of which has been asked for. -/
def mapS (K : Ky P kt κ) (E : Enc α) (ag : Bool) (b : Nat) (f : FMap κ α) (a : κ) (y : α) (st : Nat) : Res where
  fp := [b]
  mu := []
  holds := fun M w => MapH K E ag M w b (fput f a y) ∧ StampAt K w b st a
  adv := fun ha hb h => by
    obtain ⟨⟨es, c, xs, h1, h2, h3, h4⟩, es', c', g1, g2⟩ := h
    exact ⟨⟨es, c, xs, (hb b (by simp)).trans h1, h2, h3.adv ha, h4⟩, es', c', (hb b (by simp)).trans g1, g2⟩
  lt := fun h x hx => by
    obtain ⟨⟨es, c, xs, h1, _⟩, _⟩ := h
    have : x = b := by simpa using hx
    subst this; exact heap_lt h1
theorem fput_fput {f : FMap κ α} {a : κ} {y z : α} : fput (fput f a y) a z = fput f a z := by
  funext k
  unfold fput
  by_cases e : k = a <;> simp [e]
theorem fput_same {f : FMap κ α} {a : κ} {y : α} (h : f a = some y) : fput f a y = f := by
  funext k
  unfold fput
  by_cases e : k = a
  · subst e; simp [h]
  · simp [e]
variable {N : Nat} {ops : Array Oper} {q : Md} {rest : List Oper} {ds : List Deferred} {L : Env} {w w0 : World} {A B : Out} {X : Nat → Out} {Z : List PanicEntry → Out} {d : Nat} {ty : TypeId} {pos : String} {af : Array Edge} {Mu M : List Nat} {σ : List Res}
theorem modify_id {es : Array MapEntry} {j : Nat} {e : MapEntry} {v : Value} (h : es.toList[j]? = some e) (hk : e.key = v) : (es.modify j fun e => { e with key := v }) = es := by
  apply Array.ext'
  rw [Array.toList_modify]
  refine List.ext_getElem? fun i => ?_
  rw [List.getElem?_modify]
  by_cases c : j = i
  · subst c; rw [h]; simp [← hk]
  · simp [c]
/-- An entry asked for that is to be stored. -/
theorem y_men (i : Nat) {b : Nat} {f : FMap κ α} {z0 : α} {zv : Value} {x y : Operand} {t e : TypeId} {a : κ} (hI : Hp w0 Mu M σ w) (hi : σ[i]? = some (mapO K E ag b f))
    (hx : ev L x = some (.map (some b))) (hy : ev L y = some (K.val a)) (ha : K.ok a) (ht : P.underlying t = some (.map kt e)) (hz : ∀ w, (zeroValue e).run P w = .ok zv w) (hzR : Vl E ag (mm σ M) w zv z0) (hN : Nat.blt d N = true)
    (h : ∀ v st w', Hp w0 Mu M (σ.set i (mapS K E ag b f a ((f a).getD z0) st)) w' → Adv (mm σ M) (mm (σ.set i (mapS K E ag b f a ((f a).getD z0) st)) M) w w' → Reg P N ops .seq rest ds ((d, .tuple #[v, .int .i64 (st : Int)]) :: L) w' A B X Z) :
    Reg P N ops .seq (⟨some d, .mapEntry t x y, ty, pos, af, none⟩ :: rest) ds L w A B X Z := by
  obtain ⟨es, c, xs, h1, h2, h3, h4⟩ := hI.mapAt' i hi
  have key' : ∃ (es' : Array MapEntry) (c' : Nat) (xs' : List (κ × α)) (v : Value) (st : Nat), (Instr.mapEntry t (.map (some b)) (K.val a)).run P w = .ok (.tuple #[v, .int .i64 (st : Int)]) (setBlock w b (.map es' c')) ∧ Stp es' c' ∧ EntK K E ag (mm σ M) w es'.toList xs' ∧ Lists (fput f a ((f a).getD z0)) xs' ∧ ∃ (j : Nat) (e : MapEntry), es'.toList[j]? = some e ∧ e.born = st ∧ e.key = K.val a := by
    rcases K.find ha es.toList h3.keys with ⟨g1, g2⟩ | ⟨j, e', g1, g2, g3⟩
    · have hno : ∀ x ∈ xs, x.1 ≠ a := fun x hx he => by
        obtain ⟨e', h5, h6⟩ := h3.back x hx
        exact g2 e' h5 (by rw [h6, he])
      have hf : f a = none := h4.none hno
      refine ⟨es.push ⟨K.val a, zv, c⟩, c + 1, xs ++ [(a, z0)], zv, c, ?_, ⟨?_, fun x hx => ?_⟩, ?_, by rw [hf]; exact h4.push z0 hno, es.size, ⟨K.val a, zv, c⟩, by simp, rfl, rfl⟩
      · simp [Instr.mapEntry, run_underlying ht, MapKept.run_getObj_map h1, K.check ha, g1, hz, MapKept.run_setObj_map _ h1, Result.andThen, setBlock, goInt]
      · rw [Array.toList_push, List.map_append, List.nodup_append]
        refine ⟨h2.1, by simp, fun x hx y hy => ?_⟩
        obtain ⟨p, hp, rfl⟩ := List.mem_map.1 hx
        have := h2.2 p hp
        have : y = c := by simpa using hy
        omega
      · rw [Array.toList_push, List.mem_append] at hx
        rcases hx with hx | hx
        · have := h2.2 x hx; omega
        · have : x = ⟨K.val a, zv, c⟩ := by simpa using hx
          subst this; exact Nat.lt_succ_self c
      · rw [Array.toList_push]; exact h3.push ha hzR
    · obtain ⟨x', hx', hk, hok, hv'⟩ := h3.at g2
      have hxa : x'.1 = a := K.inj hok ha (by rw [← hk, g3])
      have hf : f a = some x'.2 := (h4.2 a x'.2).1 (by rw [← hxa]; exact List.mem_of_getElem? hx')
      have g4 : es[j]? = some e' := by simpa using g2
      refine ⟨es, c, xs, e'.val, e'.born, ?_, h2, h3, ?_, j, e', g2, rfl, g3⟩
      · simp [Instr.mapEntry, run_underlying ht, MapKept.run_getObj_map h1, K.check ha, g1, g4, g3, K.stays ha, modify_id g2 g3, MapKept.run_setObj_map _ h1, Result.andThen, setBlock, goInt]
      · rw [hf]
        show Lists (fput f a x'.2) xs
        rw [fput_same hf]; exact h4
  obtain ⟨es', c', xs', v, st, hr, hS, hE, hL, hSt⟩ := key'
  have hkp : Kp [b] w (setBlock w b (.map es' c')) := Kp.setB h1
  have hn : ∀ b' ∈ (mapS K E ag b f a ((f a).getD z0) st).fp, b' ∈ (mapO K E ag b f).fp ∨ w.heap.size ≤ b' := fun b' hb => .inl hb
  have hhp := (MapKept.heap_set (o' := .map es' c') h1).1
  refine Reg.eff _ (setBlock w b (.map es' c')) rfl rfl hN (fun A hA => ?_) (h v st _ (hI.upd i hi hkp hn rfl fun M' hM' => ⟨⟨es', c', xs', hhp, hS, ?_, hL⟩, es', c', hhp, hSt⟩) (hI.updA (r' := mapS K E ag b f a ((f a).getD z0) st) i hi hkp hn))
  · simp [execOp, hA.eval hx, hA.eval hy, hr]
  · have hb : b ∈ mm σ M := mem_mm.2 (.inl ⟨_, List.mem_of_getElem? hi, by simp [mapO]⟩)
    refine (hE.adv ⟨hkp.mono fun x hx => .inl ?_, fun x hx => .inl hx⟩).mon fun x hx => .inl ?_
    · have : x = b := by simpa using hx
      subst this; exact hb
    · rcases hM' x hx with h9 | h9
      · have : x = b := by simpa [mapS] using h9
        subst this; exact hb
      · exact h9
/-- Asked for while its entry waits. -/
theorem y_lkS (i : Nat) {b st : Nat} {f : FMap κ α} {y0 z0 : α} {zv : Value} {x y : Operand} {t e : TypeId} {a : κ} (hI : Hp w0 Mu M σ w) (hi : σ[i]? = some (mapS K E ag b f a y0 st))
    (hx : ev L x = some (.map (some b))) (hy : ev L y = some (K.val a)) (ha : K.ok a) (ht : P.underlying t = some (.map kt e)) (hz : ∀ w, (zeroValue e).run P w = .ok zv w) (hzR : Vl E ag (mm σ M) w zv z0) (hN : Nat.blt d N = true)
    (h : ∀ v, Vl E ag (mm σ M) w v y0 → Reg P N ops .seq rest ds ((d, v) :: L) w A B X Z) :
    Reg P N ops .seq (⟨some d, .lookup t x y false, ty, pos, af, none⟩ :: rest) ds L w A B X Z := by
  obtain ⟨v, h1, h2⟩ := (hI.get i hi).1.lookup ha ht hz hzR
  have h3 : (fput f a y0 a).getD z0 = y0 := by simp [fput]
  rw [h3] at h2
  refine Reg.eff _ w rfl rfl hN (fun A hA => ?_) (h v h2)
  simp [execOp, hA.eval hx, hA.eval hy, h1 _ w rfl]
/-- An entry stored by its stamp. -/
theorem y_est (i : Nat) {b st : Nat} {f : FMap κ α} {y0 z : α} {v : Value} {x y u : Operand} {t : TypeId} {a : κ} (hI : Hp w0 Mu M σ w) (hi : σ[i]? = some (mapS K E ag b f a y0 st))
    (hx : ev L x = some (.map (some b))) (hy : ev L y = some (.int .i64 (st : Int))) (ha : K.ok a) (hu : ev L u = some v) (hv : Vl E ag (mm σ M) w v z)
    (h : ∀ w', Hp w0 Mu M (σ.set i (mapO K E ag b (fput f a z))) w' → Adv (mm σ M) (mm (σ.set i (mapO K E ag b (fput f a z))) M) w w' → Reg P N ops .seq rest ds L w' A B X Z) :
    Reg P N ops .seq (⟨none, .entryStore t x y u, ty, pos, af, none⟩ :: rest) ds L w A B X Z := by
  obtain ⟨⟨es, c, xs, h1, h2, h3, h4⟩, es2, c2, g1, j, e, g2, g3, g4⟩ := hI.get i hi
  have : es2 = es := by rw [h1] at g1; injection g1 with g1; injection g1 with g1; exact g1.symm
  subst this
  obtain ⟨x', hx', hk, hok, hv'⟩ := h3.at g2
  have hxa : x'.1 = a := K.inj hok ha (by rw [← hk, g4])
  have hmod : (es2.modify j fun e => { e with val := v }) = es2.modify j fun e => { e with key := K.val a, val := v } := by
    apply Array.ext'
    rw [Array.toList_modify, Array.toList_modify]
    refine List.ext_getElem? fun i => ?_
    rw [List.getElem?_modify, List.getElem?_modify]
    by_cases c : j = i
    · subst c; rw [g2]; simp [← g4]
    · simp [c]
  have hr : (Instr.entryStore t (.map (some b)) (.int .i64 (st : Int)) v).run P w = .ok () (setBlock w b (.map (es2.modify j fun e => { e with key := K.val a, val := v }) c)) := by
    have hidx : es2.findIdx? (fun e => ((e.born : Nat) : Int) == ((st : Nat) : Int)) = some j := by
      rw [WideElems.findIdx_arr, ← g3]
      exact WideElems.findIdx_born h2.1 g2
    simp [Instr.entryStore, MapKept.run_getObj_map h1, asInt, asIntOf, hidx, hmod, MapKept.run_setObj_map _ h1, Result.andThen, setBlock]
  have hL : Lists (fput f a z) (xs.set j (a, z)) := by
    have := h4.set (j := j) (a := a) (y := x'.2) (by rw [hx', ← hxa]) z
    rwa [fput_fput] at this
  have hS : Stp (es2.modify j fun e => { e with key := K.val a, val := v }) c := by
    refine ⟨?_, fun x hx => ?_⟩
    · have : ((es2.modify j fun e => { e with key := K.val a, val := v }).toList.map (·.born)) = es2.toList.map (·.born) := by
        rw [Array.toList_modify]
        refine List.ext_getElem? fun i => ?_
        simp only [List.getElem?_map, List.getElem?_modify]
        by_cases e : j = i
        · subst e; cases es2.toList[j]? <;> simp
        · simp [e]
      rw [this]; exact h2.1
    · rw [Array.toList_modify] at hx
      obtain ⟨m, hm⟩ := List.getElem?_of_mem hx
      rw [List.getElem?_modify] at hm
      cases hq : es2.toList[m]? with
      | none => rw [hq] at hm; cases hm
      | some e0 =>
        rw [hq] at hm
        have := h2.2 e0 (List.mem_of_getElem? hq)
        by_cases e : j = m
        · simp [e] at hm; subst hm; exact this
        · simp [e] at hm; subst hm; exact this
  have hE : EntK K E ag (mm σ M) w (es2.modify j fun e => { e with key := K.val a, val := v }).toList (xs.set j (a, z)) := by rw [Array.toList_modify]; exact h3.set ha hv j
  have hkp : Kp [b] w (setBlock w b (.map (es2.modify j fun e => { e with key := K.val a, val := v }) c)) := Kp.setB h1
  have hn : ∀ b' ∈ (mapO K E ag b (fput f a z)).fp, b' ∈ (mapS K E ag b f a y0 st).fp ∨ w.heap.size ≤ b' := fun b' hb => .inl hb
  refine Reg.sto _ rfl rfl (fun A hA => ?_) (h _ (hI.upd i hi hkp hn rfl fun M' hM' => ⟨_, c, xs.set j (a, z), (MapKept.heap_set h1).1, hS, ?_, hL⟩) (hI.updA (r' := mapO K E ag b (fput f a z)) i hi hkp hn))
  · simp [execOp, hA.eval hx, hA.eval hy, hA.eval hu, hr]
  · have hb : b ∈ mm σ M := mem_mm.2 (.inl ⟨_, List.mem_of_getElem? hi, by simp [mapS]⟩)
    refine (hE.adv ⟨hkp.mono fun x hx => .inl ?_, fun x hx => .inl hx⟩).mon fun x hx => .inl ?_
    · have : x = b := by simpa using hx
      subst this; exact hb
    · rcases hM' x hx with h9 | h9
      · have : x = b := by simpa [mapO] using h9
        subst this; exact hb
      · exact h9
end
end Go.Sx
namespace Go.Sx
open Go Go.RowKit
variable [Trk]
/-- Cells as they are. -/
def rawE (n : Nat) (h : 0 < n) : Enc (List Value) where
  n := n
  pos := h
  R := fun _ _ cs x => cs = x ∧ x.length = n ∧ ∀ u ∈ x, u.oneCell' = true
  len := fun h => by rw [h.1]; exact h.2.1
  kp := fun _ h => h
  mon := fun _ h => h
  one := fun h u hu => h.2.2 u (by rw [← h.1]; exact hu)
theorem CallsV.go {P : Program} {w : World} {g : Nat} {caps args all : List Value} {R R' : Ending → World → Prop} (h2 : ∀ args w, (callFunc g args).run P w = .ok (.enter g args) w) (he : args ++ caps = all) (h3 : Calls P g all.toArray w R) (hr : ∀ e w', R e w' → R' e w') : CallsV P (.func (.func g) #[] caps.toArray) args w R' := (CallsV.ofL h2 he h3).mono hr
section
variable {P : Program} {N : Nat} {ops : Array Oper} {q : Md} {rest : List Oper} {ds : List Deferred} {L : Env} {w : World} {A B : Out} {X : Nat → Out} {Z : List PanicEntry → Out}
/-- At a loop's head, within the loop. -/
def CWL (P : Program) (N : Nat) (c : Code) (ds : List Deferred) (L : Env) (w : World) (A B : Out) (X : Nat → Out) (Z : List PanicEntry → Out) : Prop :=
  ∀ a, Knows N ds L a → ∀ b k cs, ∃ e a' w', (lift N A B X Z) e a' w' ∧ Arrives P (lone (b.at a (.code c :: .inLoop c :: k)) cs w) b k cs e a' w'
theorem cw_loopU {c : Code} (h : CWL P N c ds L w A B X Z) : CW P N (.loop c) ds L w A B X Z := by
  intro a ha b k cs
  obtain ⟨e, a', w', hq, harr⟩ := h a ha b k cs
  exact ⟨e, a', w', hq, .of_steps (.one step_loop) harr⟩
theorem cwl_step {c : Code} (h : CW P N c ds L w (fun ds' L' w' => CWL P N c ds' L' w' A B X Z) B X Z) : CWL P N c ds L w A B X Z := by
  intro a ha b k cs
  obtain ⟨e, a₁, w₁, hq, harr⟩ := h a ha b (.inLoop c :: k) cs
  cases e with
  | normal =>
    obtain ⟨ds₁, L₁, hk₁, hc⟩ := hq
    obtain ⟨e₂, a₂, w₂, hq₂, harr₂⟩ := hc a₁ hk₁ b k cs
    exact ⟨e₂, a₂, w₂, hq₂, .of_steps (Steps.trans harr (.one step_inLoop)) harr₂⟩
  | exit id => exact ⟨.exit id, a₁, w₁, hq, .pass (x := .inLoop c) rfl (fun _ _ => .inl (by simp)) harr⟩
  | goto l => exact hq.elim
  | ret => exact ⟨.ret, a₁, w₁, hq, .pass (x := .inLoop c) rfl (fun _ _ => .inl (by simp)) harr⟩
  | panic ch => exact ⟨.panic ch, a₁, w₁, hq, .pass (x := .inLoop c) rfl (fun _ _ => .inl (by simp)) harr⟩
  | outgrown => exact hq.elim
variable {w0 : World} {Mu M : List Nat} {σ : List Res}
/-- A row, lent while others are not written. -/
theorem Hp.lendC (h : Hp w0 Mu M σ w) (l : List Nat) (i : Nat) {e b : Nat} {cs : List Value} (hl : l.contains i = false) (hi : σ[i]? = some (rowR e b cs)) : RdC (mm (Sx.sel σ l) M) w b 0 cs := by
  refine RdC.of_row (fun hb' => ?_) (h.row i hi)
  have hbf : b ∈ (rowR e b cs).fp := by simp [rowR]
  rcases mem_mm.1 hb' with ⟨s, hs, hb'⟩ | hb'
  · obtain ⟨j, hj, hs⟩ := mem_sel hs
    refine h.dis i j _ s hi hs (fun e => ?_) b hbf hb'
    subst e
    simp at hl; exact hl hj
  · exact h.sepM _ (List.mem_of_getElem? hi) b hbf hb'
end
end Go.Sx
set_option maxRecDepth 20000
set_option maxHeartbeats 4000000
namespace Go.Proofs.YtepjkmoipjeghaaDoor
open Go Go.Sx Go.RowKit
variable [Trk]
noncomputable def P.ref03_SameInts (a : (List Int)) (b : (List Int)) : Option Bool :=
  cond (!decide ((a.length : Int) = (b.length : Int))) (some false) (Option.bind (loopM (S := Int) (R := (Unit) ⊕ (Bool)) (fun x2 => cond (decide (x2 < (a.length : Int))) (Option.bind (ixo a x2) fun y4 => Option.bind (ixo b x2) fun y11 => cond (!decide (y4 = y11)) (some (.inr (.inr false))) (Option.bind (chk .i64 (x2 + 1)) fun n22 => some (.inl n22))) (some (.inr (.inl ())))) 0) fun j23 => Sum.elim (fun _ => some true) (fun r24 => some r24)  j23)
theorem C_ref03_SameInts {M : List Nat} {w : World} (hM : MLt M w) {a : (List Int)} {v_a_0 : Value} (f_a_0 : RdS (intE .i64) M w v_a_0 a) {b : (List Int)} {v_b_0 : Value} (f_b_0 : RdS (intE .i64) M w v_b_0 b) {r0 : Bool} (h : P.ref03_SameInts a b = some r0) :
  Calls Tryd.prog 66 (List.toArray [v_a_0, v_b_0]) w fun e w' => e = .returned (Value.bool r0) ∧ Ext w w' := by
 have hI := Hp.start (Mu := []) hM
 refine calls_cw Tryd.func66 rfl Tryd.ntmps66 rfl ?_
 refine cw_seq (cw_regF (s_as rfl rfl (Reg.nil (cw_seq (cw_seq (cw_regF (s_mv rfl rfl (s_len rfl f_a_0 Tryd.underlying36 rfl (s_mv rfl rfl (s_len rfl f_b_0 Tryd.underlying36 rfl (s_neq rfl rfl rfl ?_)))))))))))
 refine Reg.nil (cw_cond rfl (fun hc1 => ?_) (fun hc1 => ?_))
 ·replace h := cdT hc1 h
  refine cw_seq (cw_regF (s_as rfl rfl (Reg.nil (cw_ret ?_))))
  obtain rfl := Option.some.inj h
  refine fin1 Tryd.results66 rfl ?_
  exact ⟨rfl, hI.kp⟩
 replace h := cdF hc1 h
 refine cw_skip (cw_seq (cw_seq (cw_regF (s_as rfl rfl (Reg.nil ?_)))))
 obtain ⟨j2, h3, h⟩ := bnd h
 refine cw_keep [0, 1, 5] rfl (cw_unitD 3 (ι := Unit) (fun _ => []) (fun _ => fun w4 => Hp w [] M [] w4 ∧ Adv (mm [] M) (mm [] M) w w4 ∧ (.inl ()) = j2) ?_ ?_)
 ·refine cw_block (cw_keep [5, 0, 1] rfl ?_)
  refine cw_loopM 1 (ι := Int) _ (fun x7 => [(5, vi x7)]) (fun x7 => x7) (fun x7 => fun w9 => Hp w [] M [] w9 ∧ Adv (mm [] M) (mm [] M) w w9 ∧ InK .i64 x7) 0 h3 ⟨hI, (Adv.refl _ _), (by decide)⟩ (sb3 rfl rfl rfl) ?_
  rintro x7 w9 ⟨hI10, hA11, r8⟩ y12 h13 hR14
  refine cw_seq (cw_seq (cw_regF (s_mv rfl rfl (s_mv rfl rfl (s_len rfl (f_a_0.adv hI10.adv) Tryd.underlying36 rfl (s_lss rfl rfl rfl (Reg.nil (cw_cond rfl (fun hc15 => ?_) (fun hc15 => ?_)))))))))
  ·replace h13 := cdT hc15 h13
   refine cw_skip (cw_seq (cw_block (cw_seq ?_)))
   refine cw_regT fol (by kernel_rfl) ?_
   refine s_mv rfl rfl (s_mv rfl rfl ?_)
   obtain ⟨y16, hy16, h13⟩ := bnd h13
   refine p_ia rfl rfl (f_a_0.adv hI10.adv) hy16 Tryd.underlying36 Tryd.sizeOf3 rfl ?_
   intro b17 o18 cs19 hR20 hC21
   obtain ⟨rfl, r22⟩ := hR20
   refine s_ld rfl (hC21.cells.at 0 rfl) Tryd.isAgg3 rfl (s_mv rfl rfl (s_mv rfl rfl ?_))
   obtain ⟨y23, hy23, h13⟩ := bnd h13
   refine p_ia rfl rfl (f_b_0.adv hI10.adv) hy23 Tryd.underlying36 Tryd.sizeOf3 rfl ?_
   intro b24 o25 cs26 hR27 hC28
   obtain ⟨rfl, r29⟩ := hR27
   refine s_ld rfl (hC28.cells.at 0 rfl) Tryd.isAgg3 rfl (s_neq rfl rfl rfl (Reg.nilq (fun w30 e31 => ?_)))
   have hI32 := hI10.ext e31
   refine cw_cond rfl (fun hc33 => ?_) (fun hc33 => ?_)
   ·replace h13 := cdT hc33 h13
    refine cw_seq (cw_regF (s_as rfl rfl (Reg.nil (cw_ret ?_))))
    obtain rfl := Option.some.inj h13
    obtain rfl := hR14 _ rfl
    replace h := elimR h
    obtain rfl := Option.some.inj h
    refine fin1 Tryd.results66 rfl ?_
    exact ⟨rfl, hI32.kp⟩
   replace h13 := cdF hc33 h13
   refine cw_skip (cw_regF (s_mv rfl rfl ?_))
   obtain ⟨n34, hn34, h13⟩ := bnd h13
   replace hn34 := chk_out hn34
   refine p_add rfl rfl rfl hn34 (s_as rfl rfl (Reg.nil ?_))
   obtain rfl := Option.some.inj h13
   refine ⟨rfl, n34, ⟨⟨hI32, hI32.adv, hn34.2⟩, rfl⟩, sb3 rfl rfl rfl⟩
  replace h13 := cdF hc15 h13
  refine cw_exit (exB_same ?_)
  obtain rfl := Option.some.inj h13
  obtain rfl := hR14 _ rfl
  refine ⟨rfl, (), ⟨hI10, hI10.adv, rfl⟩, Sub.nil _⟩
 rintro _ w4 ⟨hI5, hA6, rfl⟩
 replace h := elimL h
 refine cw_seq (cw_regF (s_as rfl rfl (Reg.nil (cw_ret ?_))))
 obtain rfl := Option.some.inj h
 refine fin1 Tryd.results66 rfl ?_
 exact ⟨rfl, hI5.kp⟩
noncomputable def P.ref03_SameTold (a : Told) (b : Told) : Option Bool :=
  Option.bind (cond (decide (a.known = b.known)) (cond (decide (a.cents = b.cents)) (cond (decide (a.since = b.since)) (Option.bind (P.ref03_SameInts a.by_ b.by_) fun z16 => some z16) (some false)) (some false)) (some false)) fun x21 => some x21
theorem C_ref03_SameTold {M : List Nat} {w : World} (hM : MLt M w) {a : Told} {v_a_3 : Value} (f_a_0 : InK .u8 a.known) (f_a_1 : InK .i64 a.cents) (f_a_2 : InK .i64 a.since) (f_a_3 : RdS (intE .i64) M w v_a_3 a.by_) {b : Told} {v_b_3 : Value} (f_b_0 : InK .u8 b.known) (f_b_1 : InK .i64 b.cents) (f_b_2 : InK .i64 b.since) (f_b_3 : RdS (intE .i64) M w v_b_3 b.by_) {r0 : Bool} (h : P.ref03_SameTold a b = some r0) :
  Calls Tryd.prog 65 (List.toArray [Value.agg (List.toArray (tV a v_a_3 [])), Value.agg (List.toArray (tV b v_b_3 []))]) w fun e w' => e = .returned (Value.bool r0) ∧ Ext w w' := by
 have hI := Hp.start (Mu := []) hM
 refine calls_cw Tryd.func65 rfl Tryd.ntmps65 rfl ?_
 refine cw_seq (cw_regF (y_box hI rfl rfl rfl ?_))
 intro b1 w2 hI3 x4
 have hC6 := hI3.freezeRow 0 rfl
 have hI5 := hI3.erase 0
 refine y_box hI5 rfl rfl rfl ?_
 intro b7 w8 hI9 x10
 have hC12 := hI9.freezeRow 0 rfl
 have hI11 := hI9.erase 0
 refine s_as rfl rfl (Reg.nil ?_)
 obtain ⟨j13, h14, h⟩ := bnd h
 refine cw_keep [2, 3] rfl (cw_seqD 2 (ι := Bool) (fun x15 => [(4, Value.bool x15)]) (fun x15 => fun w16 => Hp w [] M [] w16 ∧ Adv (mm [] M) (mm [] M) w8 w16 ∧ x15 = j13) ?_ ?_)
 ·refine cw_regF (s_fa rfl Tryd.underlying38 rfl Tryd.sizeOf5 rfl (s_ld rfl ((hC6.adv (x10.trans (hI9.eraseH 0))).cells.at 0 rfl) Tryd.isAgg5 rfl (s_fa rfl Tryd.underlying38 rfl Tryd.sizeOf5 rfl (s_ld rfl (hC12.cells.at 0 rfl) Tryd.isAgg5 rfl (s_eql rfl rfl rfl (s_mv rfl rfl (Reg.gsplit (t := 10) rfl (fun hg19 => ?_) (fun hg19 => ?_))))))))
  ·replace h14 := cdT hg19 h14
   refine Reg.take rfl rfl (s_fa rfl Tryd.underlying38 rfl Tryd.sizeOf3 rfl (Reg.take rfl rfl (s_ld rfl ((hC6.adv (x10.trans (hI9.eraseH 0))).cells.at 1 rfl) Tryd.isAgg3 rfl (Reg.take rfl rfl (s_fa rfl Tryd.underlying38 rfl Tryd.sizeOf3 rfl (Reg.take rfl rfl (s_ld rfl (hC12.cells.at 1 rfl) Tryd.isAgg3 rfl (Reg.take rfl rfl (s_eql rfl rfl rfl (s_pkT rfl rfl rfl (s_mv rfl rfl ?_)))))))))))
   refine Reg.gsplit (t := 17) rfl (fun hg20 => ?_) (fun hg20 => ?_)
   ·replace h14 := cdT hg20 h14
    refine Reg.take rfl rfl (s_fa rfl Tryd.underlying38 rfl Tryd.sizeOf3 rfl (Reg.take rfl rfl (s_ld rfl ((hC6.adv (x10.trans (hI9.eraseH 0))).cells.at 2 rfl) Tryd.isAgg3 rfl (Reg.take rfl rfl (s_fa rfl Tryd.underlying38 rfl Tryd.sizeOf3 rfl (Reg.take rfl rfl (s_ld rfl (hC12.cells.at 2 rfl) Tryd.isAgg3 rfl (Reg.take rfl rfl (s_eql rfl rfl rfl (s_pkT rfl rfl rfl (s_mv rfl rfl ?_)))))))))))
    refine Reg.gsplit (t := 24) rfl (fun hg21 => ?_) (fun hg21 => ?_)
    ·replace h14 := cdT hg21 h14
     refine Reg.take rfl rfl (s_fa rfl Tryd.underlying38 rfl Tryd.sizeOf36 rfl (Reg.take rfl rfl (s_ld rfl ((hC6.adv (x10.trans (hI9.eraseH 0))).cells.at 3 rfl) Tryd.isAgg36 rfl (Reg.take rfl rfl (s_fa rfl Tryd.underlying38 rfl Tryd.sizeOf36 rfl (Reg.take rfl rfl (s_ld rfl (hC12.cells.at 3 rfl) Tryd.isAgg36 rfl (Reg.take rfl rfl ?_))))))))
     obtain ⟨z22, hz23, h14⟩ := bnd h14
     refine s_call rfl Tryd.call66 rfl ((C_ref03_SameInts hI11.mlt (f_a_3.adv hI11.adv) (f_b_3.adv hI11.adv) hz23).mono ?_)
     rintro _ w24 ⟨rfl, e25⟩
     refine ⟨_, rfl, ?_⟩
     have hI26 := hI11.ext e25
     refine s_pkT rfl rfl rfl (s_as rfl rfl (Reg.nil ?_))
     obtain rfl := Option.some.inj h14
     refine ⟨rfl, z22, ⟨hI26, (Adv.of_ext e25), rfl⟩, sb1 rfl⟩
    replace h14 := cdF hg21 h14
    iterate 5 refine Reg.pass rfl rfl rfl rfl ?_
    refine s_pkF rfl rfl rfl (s_as rfl rfl (Reg.nil ?_))
    obtain rfl := Option.some.inj h14
    refine ⟨rfl, false, ⟨hI11, (Adv.refl _ _), rfl⟩, sb1 rfl⟩
   replace h14 := cdF hg20 h14
   iterate 5 refine Reg.pass rfl rfl rfl rfl ?_
   refine s_pkF rfl rfl rfl (s_mv rfl rfl ?_)
   iterate 5 refine Reg.pass rfl rfl rfl rfl ?_
   refine s_pkF rfl rfl rfl (s_as rfl rfl (Reg.nil ?_))
   obtain rfl := Option.some.inj h14
   refine ⟨rfl, false, ⟨hI11, (Adv.refl _ _), rfl⟩, sb1 rfl⟩
  replace h14 := cdF hg19 h14
  iterate 5 refine Reg.pass rfl rfl rfl rfl ?_
  refine s_pkF rfl rfl rfl (s_mv rfl rfl ?_)
  iterate 5 refine Reg.pass rfl rfl rfl rfl ?_
  refine s_pkF rfl rfl rfl (s_mv rfl rfl ?_)
  iterate 5 refine Reg.pass rfl rfl rfl rfl ?_
  refine s_pkF rfl rfl rfl (s_as rfl rfl (Reg.nil ?_))
  obtain rfl := Option.some.inj h14
  refine ⟨rfl, false, ⟨hI11, (Adv.refl _ _), rfl⟩, sb1 rfl⟩
 rintro x15 w16 ⟨hI17, hA18, rfl⟩
 refine cw_ret ?_
 obtain rfl := Option.some.inj h
 refine fin1 Tryd.results65 rfl ?_
 exact ⟨rfl, hI17.kp⟩
noncomputable def P.ref03_SameState (a : State) (b : State) : Option Bool :=
  Option.bind (Option.bind (P.ref03_SameTold (Told.mk a.opened.known a.opened.cents a.opened.since a.opened.by_) (Told.mk b.opened.known b.opened.cents b.opened.since b.opened.by_)) fun z13 => cond z13 (Option.bind (P.ref03_SameTold (Told.mk a.limit.known a.limit.cents a.limit.since a.limit.by_) (Told.mk b.limit.known b.limit.cents b.limit.since b.limit.by_)) fun z19 => cond z19 (Option.bind (P.ref03_SameTold (Told.mk a.owed.known a.owed.cents a.owed.since a.owed.by_) (Told.mk b.owed.known b.owed.cents b.owed.since b.owed.by_)) fun z25 => cond z25 (Option.bind (P.ref03_SameTold (Told.mk a.late.known a.late.cents a.late.since a.late.by_) (Told.mk b.late.known b.late.cents b.late.since b.late.by_)) fun z31 => cond z31 (Option.bind (P.ref03_SameTold (Told.mk a.default.known a.default.cents a.default.since a.default.by_) (Told.mk b.default.known b.default.cents b.default.since b.default.by_)) fun z37 => cond z37 (Option.bind (P.ref03_SameTold (Told.mk a.closed.known a.closed.cents a.closed.since a.closed.by_) (Told.mk b.closed.known b.closed.cents b.closed.since b.closed.by_)) fun z43 => cond z43 (cond (decide ((Span.mk a.paid.lo a.paid.hi) = (Span.mk b.paid.lo b.paid.hi))) (some (decide (a.is_ = b.is_))) (some false)) (some false)) (some false)) (some false)) (some false)) (some false)) (some false)) fun x50 => some x50
theorem C_ref03_SameState {M : List Nat} {w : World} (hM : MLt M w) {a : State} {v_a_3 : Value} {v_a_7 : Value} {v_a_11 : Value} {v_a_15 : Value} {v_a_19 : Value} {v_a_23 : Value} (f_a_0 : InK .u8 a.opened.known) (f_a_1 : InK .i64 a.opened.cents) (f_a_2 : InK .i64 a.opened.since) (f_a_3 : RdS (intE .i64) M w v_a_3 a.opened.by_) (f_a_4 : InK .u8 a.limit.known) (f_a_5 : InK .i64 a.limit.cents) (f_a_6 : InK .i64 a.limit.since) (f_a_7 : RdS (intE .i64) M w v_a_7 a.limit.by_) (f_a_8 : InK .u8 a.owed.known) (f_a_9 : InK .i64 a.owed.cents) (f_a_10 : InK .i64 a.owed.since) (f_a_11 : RdS (intE .i64) M w v_a_11 a.owed.by_) (f_a_12 : InK .u8 a.late.known) (f_a_13 : InK .i64 a.late.cents) (f_a_14 : InK .i64 a.late.since) (f_a_15 : RdS (intE .i64) M w v_a_15 a.late.by_) (f_a_16 : InK .u8 a.default.known) (f_a_17 : InK .i64 a.default.cents) (f_a_18 : InK .i64 a.default.since) (f_a_19 : RdS (intE .i64) M w v_a_19 a.default.by_) (f_a_20 : InK .u8 a.closed.known) (f_a_21 : InK .i64 a.closed.cents) (f_a_22 : InK .i64 a.closed.since) (f_a_23 : RdS (intE .i64) M w v_a_23 a.closed.by_) (f_a_24 : InK .i64 a.paid.lo) (f_a_25 : InK .i64 a.paid.hi) (f_a_26 : InK .u8 a.is_) {b : State} {v_b_3 : Value} {v_b_7 : Value} {v_b_11 : Value} {v_b_15 : Value} {v_b_19 : Value} {v_b_23 : Value} (f_b_0 : InK .u8 b.opened.known) (f_b_1 : InK .i64 b.opened.cents) (f_b_2 : InK .i64 b.opened.since) (f_b_3 : RdS (intE .i64) M w v_b_3 b.opened.by_) (f_b_4 : InK .u8 b.limit.known) (f_b_5 : InK .i64 b.limit.cents) (f_b_6 : InK .i64 b.limit.since) (f_b_7 : RdS (intE .i64) M w v_b_7 b.limit.by_) (f_b_8 : InK .u8 b.owed.known) (f_b_9 : InK .i64 b.owed.cents) (f_b_10 : InK .i64 b.owed.since) (f_b_11 : RdS (intE .i64) M w v_b_11 b.owed.by_) (f_b_12 : InK .u8 b.late.known) (f_b_13 : InK .i64 b.late.cents) (f_b_14 : InK .i64 b.late.since) (f_b_15 : RdS (intE .i64) M w v_b_15 b.late.by_) (f_b_16 : InK .u8 b.default.known) (f_b_17 : InK .i64 b.default.cents) (f_b_18 : InK .i64 b.default.since) (f_b_19 : RdS (intE .i64) M w v_b_19 b.default.by_) (f_b_20 : InK .u8 b.closed.known) (f_b_21 : InK .i64 b.closed.cents) (f_b_22 : InK .i64 b.closed.since) (f_b_23 : RdS (intE .i64) M w v_b_23 b.closed.by_) (f_b_24 : InK .i64 b.paid.lo) (f_b_25 : InK .i64 b.paid.hi) (f_b_26 : InK .u8 b.is_) {r0 : Bool} (h : P.ref03_SameState a b = some r0) :
  Calls Tryd.prog 24 (List.toArray [Value.agg (List.toArray [vu a.opened.known, vi a.opened.cents, vi a.opened.since, v_a_3, vu a.limit.known, vi a.limit.cents, vi a.limit.since, v_a_7, vu a.owed.known, vi a.owed.cents, vi a.owed.since, v_a_11, vu a.late.known, vi a.late.cents, vi a.late.since, v_a_15, vu a.default.known, vi a.default.cents, vi a.default.since, v_a_19, vu a.closed.known, vi a.closed.cents, vi a.closed.since, v_a_23, vi a.paid.lo, vi a.paid.hi, vu a.is_]), Value.agg (List.toArray [vu b.opened.known, vi b.opened.cents, vi b.opened.since, v_b_3, vu b.limit.known, vi b.limit.cents, vi b.limit.since, v_b_7, vu b.owed.known, vi b.owed.cents, vi b.owed.since, v_b_11, vu b.late.known, vi b.late.cents, vi b.late.since, v_b_15, vu b.default.known, vi b.default.cents, vi b.default.since, v_b_19, vu b.closed.known, vi b.closed.cents, vi b.closed.since, v_b_23, vi b.paid.lo, vi b.paid.hi, vu b.is_])]) w fun e w' => e = .returned (Value.bool r0) ∧ Ext w w' := by
 have hI := Hp.start (Mu := []) hM
 refine calls_cw Tryd.func24 rfl Tryd.ntmps24 rfl ?_
 refine cw_seq (cw_regF (y_box hI rfl rfl rfl ?_))
 intro b1 w2 hI3 x4
 have hC6 := hI3.freezeRow 0 rfl
 have hI5 := hI3.erase 0
 refine y_box hI5 rfl rfl rfl ?_
 intro b7 w8 hI9 x10
 have hC12 := hI9.freezeRow 0 rfl
 have hI11 := hI9.erase 0
 refine s_as rfl rfl (Reg.nil ?_)
 obtain ⟨j13, h14, h⟩ := bnd h
 refine cw_keep [2, 3] rfl (cw_seqD 2 (ι := Bool) (fun x15 => [(4, Value.bool x15)]) (fun x15 => fun w16 => Hp w [] M [] w16 ∧ Adv (mm [] M) (mm [] M) w8 w16 ∧ x15 = j13) ?_ ?_)
 ·refine cw_regF (s_fa rfl Tryd.underlying42 rfl Tryd.sizeOf38 rfl (s_lda rfl (Cells.sub (hC6.adv (x10.trans (hI9.eraseH 0))).cells 0 4) Tryd.isAgg38 rfl Tryd.sizeOf38 rfl (s_fa rfl Tryd.underlying42 rfl Tryd.sizeOf38 rfl (s_lda rfl (Cells.sub hC12.cells 0 4) Tryd.isAgg38 rfl Tryd.sizeOf38 rfl ?_))))
  obtain ⟨z19, hz20, h14⟩ := bnd h14
  refine s_call rfl Tryd.call65 rfl ((C_ref03_SameTold (a := (Told.mk a.opened.known a.opened.cents a.opened.since a.opened.by_)) (b := (Told.mk b.opened.known b.opened.cents b.opened.since b.opened.by_)) hI11.mlt f_a_0 f_a_1 f_a_2 (f_a_3.adv hI11.adv) f_b_0 f_b_1 f_b_2 (f_b_3.adv hI11.adv) hz20).mono ?_)
  rintro _ w21 ⟨rfl, e22⟩
  refine ⟨_, rfl, ?_⟩
  have hI23 := hI11.ext e22
  refine s_mv rfl rfl (Reg.gsplit (t := 10) rfl (fun hg24 => ?_) (fun hg24 => ?_))
  ·replace h14 := cdT hg24 h14
   refine Reg.take rfl rfl (s_fa rfl Tryd.underlying42 rfl Tryd.sizeOf38 rfl (Reg.take rfl rfl (s_lda rfl (Cells.sub (hC6.adv (x10.trans ((hI9.eraseH 0).trans (Adv.of_ext e22)))).cells 4 4) Tryd.isAgg38 rfl Tryd.sizeOf38 rfl (Reg.take rfl rfl (s_fa rfl Tryd.underlying42 rfl Tryd.sizeOf38 rfl (Reg.take rfl rfl (s_lda rfl (Cells.sub (hC12.adv (Adv.of_ext e22)).cells 4 4) Tryd.isAgg38 rfl Tryd.sizeOf38 rfl (Reg.take rfl rfl ?_))))))))
   obtain ⟨z25, hz26, h14⟩ := bnd h14
   refine s_call rfl Tryd.call65 rfl ((C_ref03_SameTold (a := (Told.mk a.limit.known a.limit.cents a.limit.since a.limit.by_)) (b := (Told.mk b.limit.known b.limit.cents b.limit.since b.limit.by_)) hI23.mlt f_a_4 f_a_5 f_a_6 (f_a_7.adv hI23.adv) f_b_4 f_b_5 f_b_6 (f_b_7.adv hI23.adv) hz26).mono ?_)
   rintro _ w27 ⟨rfl, e28⟩
   refine ⟨_, rfl, ?_⟩
   have hI29 := hI23.ext e28
   refine s_pkT rfl rfl rfl (s_mv rfl rfl (Reg.gsplit (t := 17) rfl (fun hg30 => ?_) (fun hg30 => ?_)))
   ·replace h14 := cdT hg30 h14
    refine Reg.take rfl rfl (s_fa rfl Tryd.underlying42 rfl Tryd.sizeOf38 rfl (Reg.take rfl rfl (s_lda rfl (Cells.sub (hC6.adv (x10.trans ((hI9.eraseH 0).trans ((Adv.of_ext e22).trans (Adv.of_ext e28))))).cells 8 4) Tryd.isAgg38 rfl Tryd.sizeOf38 rfl (Reg.take rfl rfl (s_fa rfl Tryd.underlying42 rfl Tryd.sizeOf38 rfl (Reg.take rfl rfl (s_lda rfl (Cells.sub (hC12.adv ((Adv.of_ext e22).trans (Adv.of_ext e28))).cells 8 4) Tryd.isAgg38 rfl Tryd.sizeOf38 rfl (Reg.take rfl rfl ?_))))))))
    obtain ⟨z31, hz32, h14⟩ := bnd h14
    refine s_call rfl Tryd.call65 rfl ((C_ref03_SameTold (a := (Told.mk a.owed.known a.owed.cents a.owed.since a.owed.by_)) (b := (Told.mk b.owed.known b.owed.cents b.owed.since b.owed.by_)) hI29.mlt f_a_8 f_a_9 f_a_10 (f_a_11.adv hI29.adv) f_b_8 f_b_9 f_b_10 (f_b_11.adv hI29.adv) hz32).mono ?_)
    rintro _ w33 ⟨rfl, e34⟩
    refine ⟨_, rfl, ?_⟩
    have hI35 := hI29.ext e34
    refine s_pkT rfl rfl rfl (s_mv rfl rfl (Reg.gsplit (t := 24) rfl (fun hg36 => ?_) (fun hg36 => ?_)))
    ·replace h14 := cdT hg36 h14
     refine Reg.take rfl rfl (s_fa rfl Tryd.underlying42 rfl Tryd.sizeOf38 rfl (Reg.take rfl rfl (s_lda rfl (Cells.sub (hC6.adv (x10.trans ((hI9.eraseH 0).trans ((Adv.of_ext e22).trans ((Adv.of_ext e28).trans (Adv.of_ext e34)))))).cells 12 4) Tryd.isAgg38 rfl Tryd.sizeOf38 rfl (Reg.take rfl rfl (s_fa rfl Tryd.underlying42 rfl Tryd.sizeOf38 rfl (Reg.take rfl rfl (s_lda rfl (Cells.sub (hC12.adv ((Adv.of_ext e22).trans ((Adv.of_ext e28).trans (Adv.of_ext e34)))).cells 12 4) Tryd.isAgg38 rfl Tryd.sizeOf38 rfl (Reg.take rfl rfl ?_))))))))
     obtain ⟨z37, hz38, h14⟩ := bnd h14
     refine s_call rfl Tryd.call65 rfl ((C_ref03_SameTold (a := (Told.mk a.late.known a.late.cents a.late.since a.late.by_)) (b := (Told.mk b.late.known b.late.cents b.late.since b.late.by_)) hI35.mlt f_a_12 f_a_13 f_a_14 (f_a_15.adv hI35.adv) f_b_12 f_b_13 f_b_14 (f_b_15.adv hI35.adv) hz38).mono ?_)
     rintro _ w39 ⟨rfl, e40⟩
     refine ⟨_, rfl, ?_⟩
     have hI41 := hI35.ext e40
     refine s_pkT rfl rfl rfl (s_mv rfl rfl (Reg.gsplit (t := 31) rfl (fun hg42 => ?_) (fun hg42 => ?_)))
     ·replace h14 := cdT hg42 h14
      refine Reg.take rfl rfl (s_fa rfl Tryd.underlying42 rfl Tryd.sizeOf38 rfl (Reg.take rfl rfl (s_lda rfl (Cells.sub (hC6.adv (x10.trans ((hI9.eraseH 0).trans ((Adv.of_ext e22).trans ((Adv.of_ext e28).trans ((Adv.of_ext e34).trans (Adv.of_ext e40))))))).cells 16 4) Tryd.isAgg38 rfl Tryd.sizeOf38 rfl (Reg.take rfl rfl (s_fa rfl Tryd.underlying42 rfl Tryd.sizeOf38 rfl (Reg.take rfl rfl (s_lda rfl (Cells.sub (hC12.adv ((Adv.of_ext e22).trans ((Adv.of_ext e28).trans ((Adv.of_ext e34).trans (Adv.of_ext e40))))).cells 16 4) Tryd.isAgg38 rfl Tryd.sizeOf38 rfl (Reg.take rfl rfl ?_))))))))
      obtain ⟨z43, hz44, h14⟩ := bnd h14
      refine s_call rfl Tryd.call65 rfl ((C_ref03_SameTold (a := (Told.mk a.default.known a.default.cents a.default.since a.default.by_)) (b := (Told.mk b.default.known b.default.cents b.default.since b.default.by_)) hI41.mlt f_a_16 f_a_17 f_a_18 (f_a_19.adv hI41.adv) f_b_16 f_b_17 f_b_18 (f_b_19.adv hI41.adv) hz44).mono ?_)
      rintro _ w45 ⟨rfl, e46⟩
      refine ⟨_, rfl, ?_⟩
      have hI47 := hI41.ext e46
      refine s_pkT rfl rfl rfl (s_mv rfl rfl (Reg.gsplit (t := 38) rfl (fun hg48 => ?_) (fun hg48 => ?_)))
      ·replace h14 := cdT hg48 h14
       refine Reg.take rfl rfl (s_fa rfl Tryd.underlying42 rfl Tryd.sizeOf38 rfl (Reg.take rfl rfl (s_lda rfl (Cells.sub (hC6.adv (x10.trans ((hI9.eraseH 0).trans ((Adv.of_ext e22).trans ((Adv.of_ext e28).trans ((Adv.of_ext e34).trans ((Adv.of_ext e40).trans (Adv.of_ext e46)))))))).cells 20 4) Tryd.isAgg38 rfl Tryd.sizeOf38 rfl (Reg.take rfl rfl (s_fa rfl Tryd.underlying42 rfl Tryd.sizeOf38 rfl (Reg.take rfl rfl (s_lda rfl (Cells.sub (hC12.adv ((Adv.of_ext e22).trans ((Adv.of_ext e28).trans ((Adv.of_ext e34).trans ((Adv.of_ext e40).trans (Adv.of_ext e46)))))).cells 20 4) Tryd.isAgg38 rfl Tryd.sizeOf38 rfl (Reg.take rfl rfl ?_))))))))
       obtain ⟨z49, hz50, h14⟩ := bnd h14
       refine s_call rfl Tryd.call65 rfl ((C_ref03_SameTold (a := (Told.mk a.closed.known a.closed.cents a.closed.since a.closed.by_)) (b := (Told.mk b.closed.known b.closed.cents b.closed.since b.closed.by_)) hI47.mlt f_a_20 f_a_21 f_a_22 (f_a_23.adv hI47.adv) f_b_20 f_b_21 f_b_22 (f_b_23.adv hI47.adv) hz50).mono ?_)
       rintro _ w51 ⟨rfl, e52⟩
       refine ⟨_, rfl, ?_⟩
       have hI53 := hI47.ext e52
       refine s_pkT rfl rfl rfl (s_mv rfl rfl (Reg.gsplit (t := 45) rfl (fun hg54 => ?_) (fun hg54 => ?_)))
       ·replace h14 := cdT hg54 h14
        refine Reg.take rfl rfl (s_fa rfl Tryd.underlying42 rfl Tryd.sizeOf40 rfl (Reg.take rfl rfl (s_lda rfl (Cells.sub (hC6.adv (x10.trans ((hI9.eraseH 0).trans ((Adv.of_ext e22).trans ((Adv.of_ext e28).trans ((Adv.of_ext e34).trans ((Adv.of_ext e40).trans ((Adv.of_ext e46).trans (Adv.of_ext e52))))))))).cells 24 2) Tryd.isAgg40 rfl Tryd.sizeOf40 rfl (Reg.take rfl rfl (s_fa rfl Tryd.underlying42 rfl Tryd.sizeOf40 rfl (Reg.take rfl rfl (s_lda rfl (Cells.sub (hC12.adv ((Adv.of_ext e22).trans ((Adv.of_ext e28).trans ((Adv.of_ext e34).trans ((Adv.of_ext e40).trans ((Adv.of_ext e46).trans (Adv.of_ext e52))))))).cells 24 2) Tryd.isAgg40 rfl Tryd.sizeOf40 rfl (Reg.take rfl rfl (s_eqS (Span_eq (Span.mk a.paid.lo a.paid.hi) (Span.mk b.paid.lo b.paid.hi)) Tryd.eqGuardType40 rfl rfl rfl ?_)))))))))
        refine s_pkT rfl rfl rfl (s_mv rfl rfl (Reg.gsplit (t := 52) rfl (fun hg55 => ?_) (fun hg55 => ?_)))
        ·replace h14 := cdT hg55 h14
         refine Reg.take rfl rfl (s_fa rfl Tryd.underlying42 rfl Tryd.sizeOf5 rfl (Reg.take rfl rfl (s_ld rfl ((hC6.adv (x10.trans ((hI9.eraseH 0).trans ((Adv.of_ext e22).trans ((Adv.of_ext e28).trans ((Adv.of_ext e34).trans ((Adv.of_ext e40).trans ((Adv.of_ext e46).trans (Adv.of_ext e52))))))))).cells.at 26 rfl) Tryd.isAgg5 rfl (Reg.take rfl rfl (s_fa rfl Tryd.underlying42 rfl Tryd.sizeOf5 rfl (Reg.take rfl rfl (s_ld rfl ((hC12.adv ((Adv.of_ext e22).trans ((Adv.of_ext e28).trans ((Adv.of_ext e34).trans ((Adv.of_ext e40).trans ((Adv.of_ext e46).trans (Adv.of_ext e52))))))).cells.at 26 rfl) Tryd.isAgg5 rfl (Reg.take rfl rfl (s_eql rfl rfl rfl (s_pkT rfl rfl rfl (s_as rfl rfl ?_)))))))))))
         refine Reg.nil ?_
         obtain rfl := Option.some.inj h14
         refine ⟨rfl, decide (a.is_ = b.is_), ⟨hI53, ((Adv.of_ext e22).trans ((Adv.of_ext e28).trans ((Adv.of_ext e34).trans ((Adv.of_ext e40).trans ((Adv.of_ext e46).trans (Adv.of_ext e52)))))), rfl⟩, sb1 rfl⟩
        replace h14 := cdF hg55 h14
        iterate 5 refine Reg.pass rfl rfl rfl rfl ?_
        refine s_pkF rfl rfl rfl (s_as rfl rfl (Reg.nil ?_))
        obtain rfl := Option.some.inj h14
        refine ⟨rfl, false, ⟨hI53, ((Adv.of_ext e22).trans ((Adv.of_ext e28).trans ((Adv.of_ext e34).trans ((Adv.of_ext e40).trans ((Adv.of_ext e46).trans (Adv.of_ext e52)))))), rfl⟩, sb1 rfl⟩
       replace h14 := cdF hg54 h14
       iterate 5 refine Reg.pass rfl rfl rfl rfl ?_
       refine s_pkF rfl rfl rfl (s_mv rfl rfl ?_)
       iterate 5 refine Reg.pass rfl rfl rfl rfl ?_
       refine s_pkF rfl rfl rfl (s_as rfl rfl (Reg.nil ?_))
       obtain rfl := Option.some.inj h14
       refine ⟨rfl, false, ⟨hI53, ((Adv.of_ext e22).trans ((Adv.of_ext e28).trans ((Adv.of_ext e34).trans ((Adv.of_ext e40).trans ((Adv.of_ext e46).trans (Adv.of_ext e52)))))), rfl⟩, sb1 rfl⟩
      replace h14 := cdF hg48 h14
      iterate 5 refine Reg.pass rfl rfl rfl rfl ?_
      refine s_pkF rfl rfl rfl (s_mv rfl rfl ?_)
      iterate 5 refine Reg.pass rfl rfl rfl rfl ?_
      refine s_pkF rfl rfl rfl (s_mv rfl rfl ?_)
      iterate 5 refine Reg.pass rfl rfl rfl rfl ?_
      refine s_pkF rfl rfl rfl (s_as rfl rfl (Reg.nil ?_))
      obtain rfl := Option.some.inj h14
      refine ⟨rfl, false, ⟨hI47, ((Adv.of_ext e22).trans ((Adv.of_ext e28).trans ((Adv.of_ext e34).trans ((Adv.of_ext e40).trans (Adv.of_ext e46))))), rfl⟩, sb1 rfl⟩
     replace h14 := cdF hg42 h14
     iterate 5 refine Reg.pass rfl rfl rfl rfl ?_
     refine s_pkF rfl rfl rfl (s_mv rfl rfl ?_)
     iterate 5 refine Reg.pass rfl rfl rfl rfl ?_
     refine s_pkF rfl rfl rfl (s_mv rfl rfl ?_)
     iterate 5 refine Reg.pass rfl rfl rfl rfl ?_
     refine s_pkF rfl rfl rfl (s_mv rfl rfl ?_)
     iterate 5 refine Reg.pass rfl rfl rfl rfl ?_
     refine s_pkF rfl rfl rfl (s_as rfl rfl (Reg.nil ?_))
     obtain rfl := Option.some.inj h14
     refine ⟨rfl, false, ⟨hI41, ((Adv.of_ext e22).trans ((Adv.of_ext e28).trans ((Adv.of_ext e34).trans (Adv.of_ext e40)))), rfl⟩, sb1 rfl⟩
    replace h14 := cdF hg36 h14
    iterate 5 refine Reg.pass rfl rfl rfl rfl ?_
    refine s_pkF rfl rfl rfl (s_mv rfl rfl ?_)
    iterate 5 refine Reg.pass rfl rfl rfl rfl ?_
    refine s_pkF rfl rfl rfl (s_mv rfl rfl ?_)
    iterate 5 refine Reg.pass rfl rfl rfl rfl ?_
    refine s_pkF rfl rfl rfl (s_mv rfl rfl ?_)
    iterate 5 refine Reg.pass rfl rfl rfl rfl ?_
    refine s_pkF rfl rfl rfl (s_mv rfl rfl ?_)
    iterate 5 refine Reg.pass rfl rfl rfl rfl ?_
    refine s_pkF rfl rfl rfl (s_as rfl rfl (Reg.nil ?_))
    obtain rfl := Option.some.inj h14
    refine ⟨rfl, false, ⟨hI35, ((Adv.of_ext e22).trans ((Adv.of_ext e28).trans (Adv.of_ext e34))), rfl⟩, sb1 rfl⟩
   replace h14 := cdF hg30 h14
   iterate 5 refine Reg.pass rfl rfl rfl rfl ?_
   refine s_pkF rfl rfl rfl (s_mv rfl rfl ?_)
   iterate 5 refine Reg.pass rfl rfl rfl rfl ?_
   refine s_pkF rfl rfl rfl (s_mv rfl rfl ?_)
   iterate 5 refine Reg.pass rfl rfl rfl rfl ?_
   refine s_pkF rfl rfl rfl (s_mv rfl rfl ?_)
   iterate 5 refine Reg.pass rfl rfl rfl rfl ?_
   refine s_pkF rfl rfl rfl (s_mv rfl rfl ?_)
   iterate 5 refine Reg.pass rfl rfl rfl rfl ?_
   refine s_pkF rfl rfl rfl (s_mv rfl rfl ?_)
   iterate 5 refine Reg.pass rfl rfl rfl rfl ?_
   refine s_pkF rfl rfl rfl (s_as rfl rfl (Reg.nil ?_))
   obtain rfl := Option.some.inj h14
   refine ⟨rfl, false, ⟨hI29, ((Adv.of_ext e22).trans (Adv.of_ext e28)), rfl⟩, sb1 rfl⟩
  replace h14 := cdF hg24 h14
  iterate 5 refine Reg.pass rfl rfl rfl rfl ?_
  refine s_pkF rfl rfl rfl (s_mv rfl rfl ?_)
  iterate 5 refine Reg.pass rfl rfl rfl rfl ?_
  refine s_pkF rfl rfl rfl (s_mv rfl rfl ?_)
  iterate 5 refine Reg.pass rfl rfl rfl rfl ?_
  refine s_pkF rfl rfl rfl (s_mv rfl rfl ?_)
  iterate 5 refine Reg.pass rfl rfl rfl rfl ?_
  refine s_pkF rfl rfl rfl (s_mv rfl rfl ?_)
  iterate 5 refine Reg.pass rfl rfl rfl rfl ?_
  refine s_pkF rfl rfl rfl (s_mv rfl rfl ?_)
  iterate 5 refine Reg.pass rfl rfl rfl rfl ?_
  refine s_pkF rfl rfl rfl (s_mv rfl rfl ?_)
  iterate 5 refine Reg.pass rfl rfl rfl rfl ?_
  refine s_pkF rfl rfl rfl (s_as rfl rfl (Reg.nil ?_))
  obtain rfl := Option.some.inj h14
  refine ⟨rfl, false, ⟨hI23, (Adv.of_ext e22), rfl⟩, sb1 rfl⟩
 rintro x15 w16 ⟨hI17, hA18, rfl⟩
 refine cw_ret ?_
 obtain rfl := Option.some.inj h
 refine fin1 Tryd.results24 rfl ?_
 exact ⟨rfl, hI17.kp⟩
noncomputable def P.ref03_SameClashes (a : (List Clash)) (b : (List Clash)) : Option Bool :=
  cond (!decide ((a.length : Int) = (b.length : Int))) (some false) (Option.bind (loopM (S := Int) (R := (Unit) ⊕ (Bool)) (fun x2 => cond (decide (x2 < (a.length : Int))) (Option.bind (Option.bind (ixo a x2) fun y4 => Option.bind (ixo b x2) fun y14 => cond (!decide (y4.kind = y14.kind)) (some true) (Option.bind (ixo a x2) fun y28 => Option.bind (ixo b x2) fun y38 => cond (!decide (y28.about = y38.about)) (some true) (Option.bind (ixo a x2) fun y52 => Option.bind (ixo b x2) fun y62 => Option.bind (P.ref03_SameInts y52.by_ y62.by_) fun z72 => some (!z72)))) fun x79 => cond x79 (some (.inr (.inr false))) (Option.bind (chk .i64 (x2 + 1)) fun n81 => some (.inl n81))) (some (.inr (.inl ())))) 0) fun j82 => Sum.elim (fun _ => some true) (fun r83 => some r83)  j82)
theorem C_ref03_SameClashes {M : List Nat} {w : World} (hM : MLt M w) {a : (List Clash)} {v_a_0 : Value} (f_a_0 : RdS ClashE M w v_a_0 a) {b : (List Clash)} {v_b_0 : Value} (f_b_0 : RdS ClashE M w v_b_0 b) {r0 : Bool} (h : P.ref03_SameClashes a b = some r0) :
  Calls Tryd.prog 25 (List.toArray [v_a_0, v_b_0]) w fun e w' => e = .returned (Value.bool r0) ∧ Ext w w' := by
 have hI := Hp.start (Mu := []) hM
 refine calls_cw Tryd.func25 rfl Tryd.ntmps25 rfl ?_
 refine cw_seq (cw_regF (s_as rfl rfl (Reg.nil (cw_seq (cw_seq (cw_regF (s_mv rfl rfl (s_len rfl f_a_0 Tryd.underlying47 rfl (s_mv rfl rfl (s_len rfl f_b_0 Tryd.underlying47 rfl (s_neq rfl rfl rfl ?_)))))))))))
 refine Reg.nil (cw_cond rfl (fun hc1 => ?_) (fun hc1 => ?_))
 ·replace h := cdT hc1 h
  refine cw_seq (cw_regF (s_as rfl rfl (Reg.nil (cw_ret ?_))))
  obtain rfl := Option.some.inj h
  refine fin1 Tryd.results25 rfl ?_
  exact ⟨rfl, hI.kp⟩
 replace h := cdF hc1 h
 refine cw_skip (cw_seq (cw_seq (cw_regF (s_as rfl rfl (Reg.nil ?_)))))
 obtain ⟨j2, h3, h⟩ := bnd h
 refine cw_keep [0, 1, 5] rfl (cw_unitD 3 (ι := Unit) (fun _ => []) (fun _ => fun w4 => Hp w [] M [] w4 ∧ Adv (mm [] M) (mm [] M) w w4 ∧ (.inl ()) = j2) ?_ ?_)
 ·refine cw_block (cw_keep [5, 0, 1] rfl ?_)
  refine cw_loopM 1 (ι := Int) _ (fun x7 => [(5, vi x7)]) (fun x7 => x7) (fun x7 => fun w9 => Hp w [] M [] w9 ∧ Adv (mm [] M) (mm [] M) w w9 ∧ InK .i64 x7) 0 h3 ⟨hI, (Adv.refl _ _), (by decide)⟩ (sb3 rfl rfl rfl) ?_
  rintro x7 w9 ⟨hI10, hA11, r8⟩ y12 h13 hR14
  refine cw_seq (cw_seq (cw_regF (s_mv rfl rfl (s_mv rfl rfl (s_len rfl (f_a_0.adv hI10.adv) Tryd.underlying47 rfl (s_lss rfl rfl rfl (Reg.nil (cw_cond rfl (fun hc15 => ?_) (fun hc15 => ?_)))))))))
  ·replace h13 := cdT hc15 h13
   refine cw_skip (cw_seq (cw_block ?_))
   obtain ⟨j16, h17, h13⟩ := bnd h13
   refine cw_keep [0, 1, 5] rfl (cw_seqD 0 (ι := Bool) (fun x18 => [(54, Value.bool x18)]) (fun x18 => fun w19 => Hp w [] M [] w19 ∧ Adv (mm [] M) (mm [] M) w9 w19 ∧ x18 = j16) ?_ ?_)
   ·refine cw_regT fol (by kernel_rfl) ?_
    refine s_mv rfl rfl (s_mv rfl rfl ?_)
    obtain ⟨y22, hy22, h17⟩ := bnd h17
    refine p_ia rfl rfl (f_a_0.adv hI10.adv) hy22 Tryd.underlying47 Tryd.sizeOf55 rfl ?_
    intro b23 o24 cs25 hR26 hC27
    obtain ⟨v30, rfl, r28, r29, hf31⟩ := ClashE_R.1 hR26
    refine s_fa rfl Tryd.underlying55 rfl Tryd.sizeOf5 rfl (s_ld rfl (hC27.cells.at 0 rfl) Tryd.isAgg5 rfl (s_mv rfl rfl (s_mv rfl rfl ?_)))
    obtain ⟨y32, hy32, h17⟩ := bnd h17
    refine p_ia rfl rfl (f_b_0.adv hI10.adv) hy32 Tryd.underlying47 Tryd.sizeOf55 rfl ?_
    intro b33 o34 cs35 hR36 hC37
    obtain ⟨v40, rfl, r38, r39, hf41⟩ := ClashE_R.1 hR36
    refine s_fa rfl Tryd.underlying55 rfl Tryd.sizeOf5 rfl (s_ld rfl (hC37.cells.at 0 rfl) Tryd.isAgg5 rfl (s_neq rfl rfl rfl (s_mv rfl rfl (Reg.gsplit (t := 28) rfl (fun hg42 => ?_) (fun hg42 => ?_)))))
    ·replace h17 := cdT hg42 h17
     iterate 11 refine Reg.pass rfl rfl rfl rfl ?_
     refine s_pkT rfl rfl rfl (s_mv rfl rfl ?_)
     iterate 12 refine Reg.pass rfl rfl rfl rfl ?_
     refine s_pkT rfl rfl rfl (Reg.nilq (fun w43 e44 => ?_))
     have hI45 := hI10.ext e44
     obtain rfl := Option.some.inj h17
     refine ⟨rfl, true, ⟨hI45, (Adv.of_ext e44), rfl⟩, sb4 rfl rfl rfl rfl⟩
    replace h17 := cdF hg42 h17
    refine Reg.take rfl rfl (s_mv rfl rfl (Reg.take rfl rfl (s_mv rfl rfl (Reg.take rfl rfl ?_))))
    obtain ⟨y46, hy46, h17⟩ := bnd h17
    refine p_ia rfl rfl (f_a_0.adv hI10.adv) hy46 Tryd.underlying47 Tryd.sizeOf55 rfl ?_
    intro b47 o48 cs49 hR50 hC51
    obtain ⟨v54, rfl, r52, r53, hf55⟩ := ClashE_R.1 hR50
    refine Reg.take rfl rfl (s_fa rfl Tryd.underlying55 rfl Tryd.sizeOf3 rfl (Reg.take rfl rfl (s_ld rfl (hC51.cells.at 1 rfl) Tryd.isAgg3 rfl (Reg.take rfl rfl (s_mv rfl rfl (Reg.take rfl rfl (s_mv rfl rfl (Reg.take rfl rfl ?_))))))))
    obtain ⟨y56, hy56, h17⟩ := bnd h17
    refine p_ia rfl rfl (f_b_0.adv hI10.adv) hy56 Tryd.underlying47 Tryd.sizeOf55 rfl ?_
    intro b57 o58 cs59 hR60 hC61
    obtain ⟨v64, rfl, r62, r63, hf65⟩ := ClashE_R.1 hR60
    refine Reg.take rfl rfl (s_fa rfl Tryd.underlying55 rfl Tryd.sizeOf3 rfl (Reg.take rfl rfl (s_ld rfl (hC61.cells.at 1 rfl) Tryd.isAgg3 rfl (Reg.take rfl rfl (s_neq rfl rfl rfl (s_pkF rfl rfl rfl (s_mv rfl rfl (Reg.gsplit (t := 41) rfl (fun hg66 => ?_) (fun hg66 => ?_)))))))))
    ·replace h17 := cdT hg66 h17
     iterate 12 refine Reg.pass rfl rfl rfl rfl ?_
     refine s_pkT rfl rfl rfl (Reg.nilq (fun w67 e68 => ?_))
     have hI69 := hI10.ext e68
     obtain rfl := Option.some.inj h17
     refine ⟨rfl, true, ⟨hI69, (Adv.of_ext e68), rfl⟩, sb4 rfl rfl rfl rfl⟩
    replace h17 := cdF hg66 h17
    refine Reg.take rfl rfl (s_mv rfl rfl (Reg.take rfl rfl (s_mv rfl rfl (Reg.take rfl rfl ?_))))
    obtain ⟨y70, hy70, h17⟩ := bnd h17
    refine p_ia rfl rfl (f_a_0.adv hI10.adv) hy70 Tryd.underlying47 Tryd.sizeOf55 rfl ?_
    intro b71 o72 cs73 hR74 hC75
    obtain ⟨v78, rfl, r76, r77, hf79⟩ := ClashE_R.1 hR74
    refine Reg.take rfl rfl (s_fa rfl Tryd.underlying55 rfl Tryd.sizeOf36 rfl (Reg.take rfl rfl (s_ld rfl (hC75.cells.at 2 rfl) Tryd.isAgg36 rfl (Reg.take rfl rfl (s_mv rfl rfl (Reg.take rfl rfl (s_mv rfl rfl (Reg.take rfl rfl ?_))))))))
    obtain ⟨y80, hy80, h17⟩ := bnd h17
    refine p_ia rfl rfl (f_b_0.adv hI10.adv) hy80 Tryd.underlying47 Tryd.sizeOf55 rfl ?_
    intro b81 o82 cs83 hR84 hC85
    obtain ⟨v88, rfl, r86, r87, hf89⟩ := ClashE_R.1 hR84
    refine Reg.take rfl rfl (s_fa rfl Tryd.underlying55 rfl Tryd.sizeOf36 rfl (Reg.take rfl rfl (s_ld rfl (hC85.cells.at 2 rfl) Tryd.isAgg36 rfl (Reg.take rfl rfl ?_))))
    obtain ⟨z90, hz91, h17⟩ := bnd h17
    refine s_callq rfl rfl Tryd.call66 rfl (fun w92 e93 => (C_ref03_SameInts (hI10.mlt.ext e93) (hf79.adv (Adv.of_ext e93)) (hf89.adv (Adv.of_ext e93)) hz91).mono (fun _ _ hq => ⟨hq.1, hq.2⟩)) ?_
    refine Reg.take rfl rfl (s_not rfl rfl (s_pkF rfl rfl rfl (Reg.nilq (fun w94 e95 => ?_))))
    have hI96 := hI10.ext e95
    obtain rfl := Option.some.inj h17
    refine ⟨rfl, !z90, ⟨hI96, (Adv.of_ext e95), rfl⟩, sb4 rfl rfl rfl rfl⟩
   rintro x18 w19 ⟨hI20, hA21, rfl⟩
   refine cw_cond rfl (fun hc97 => ?_) (fun hc97 => ?_)
   ·replace h13 := cdT hc97 h13
    refine cw_seq (cw_regF (s_as rfl rfl (Reg.nil (cw_ret ?_))))
    obtain rfl := Option.some.inj h13
    obtain rfl := hR14 _ rfl
    replace h := elimR h
    obtain rfl := Option.some.inj h
    refine fin1 Tryd.results25 rfl ?_
    exact ⟨rfl, hI20.kp⟩
   replace h13 := cdF hc97 h13
   refine cw_skip (cw_regF (s_mv rfl rfl ?_))
   obtain ⟨n98, hn98, h13⟩ := bnd h13
   replace hn98 := chk_out hn98
   refine p_add rfl rfl rfl hn98 (s_as rfl rfl (Reg.nil ?_))
   obtain rfl := Option.some.inj h13
   refine ⟨rfl, n98, ⟨⟨hI20, hI20.adv, hn98.2⟩, rfl⟩, sb3 rfl rfl rfl⟩
  replace h13 := cdF hc15 h13
  refine cw_exit (exB_same ?_)
  obtain rfl := Option.some.inj h13
  obtain rfl := hR14 _ rfl
  refine ⟨rfl, (), ⟨hI10, hI10.adv, rfl⟩, Sub.nil _⟩
 rintro _ w4 ⟨hI5, hA6, rfl⟩
 replace h := elimL h
 refine cw_seq (cw_regF (s_as rfl rfl (Reg.nil (cw_ret ?_))))
 obtain rfl := Option.some.inj h
 refine fin1 Tryd.results25 rfl ?_
 exact ⟨rfl, hI5.kp⟩
end Go.Proofs.YtepjkmoipjeghaaDoor
namespace Go.Sx
open Go Go.RowKit
section
variable [Trk]
variable {P : Program} {N : Nat} {ops : Array Oper} {q : Md} {rest : List Oper} {ds : List Deferred} {L : Env} {w : World} {A B : Out} {X : Nat → Out} {Z : List PanicEntry → Out} {d : Nat} {ty : TypeId} {pos : String} {af : Array Edge}
theorem s_bda2 {t e : TypeId} {x y : Operand} {z v0 v1 z0 z1 : Value} (hz : ∀ w, (zeroValue t).run P w = .ok z w) (hzc : z.cells = #[z0, z1]) (ht : P.underlying t = some (.array 2 e)) (hs : ∀ w, (sizeOf e).run P w = .ok 1 w) (hx : ev L x = some v0) (hy : ev L y = some v1) (h0 : v0.cells = #[v0]) (h1 : v1.cells = #[v1]) (hN : Nat.blt d N = true)
    (h : Reg P N ops q rest ds ((d, .agg [v0, v1].toArray) :: L) w A B X Z) : Reg P N ops q (⟨some d, .build t #[(0, x), (1, y)], ty, pos, af, none⟩ :: rest) ds L w A B X Z := by
  refine Reg.val (.agg [v0, v1].toArray) rfl rfl hN (fun a ha w' _ => ?_) h
  simp [execOp, Instr.build, hz, hzc, run_underlying ht, hs, ha.eval hx, ha.eval hy, Instr.fill, h0, h1]
end
end Go.Sx
namespace Go.Sx
open Go Go.RowKit Go.ChangeMaps
open Classical in
noncomputable def flen {κ α : Type} (f : FMap κ α) : Int := if h : ∃ l, Lists f l then (h.choose.length : Int) else 0
theorem Lists.one {κ α : Type} {f : FMap κ α} {l l' : List (κ × α)} (h : Lists f l) (h' : Lists f l') : l.Perm l' :=
  (List.perm_ext_iff_of_nodup ((List.pairwise_map.1 h.1).imp fun h e => h (congrArg _ e)) ((List.pairwise_map.1 h'.1).imp fun h e => h (congrArg _ e))).2 fun ⟨a, y⟩ => (h.2 a y).trans (h'.2 a y).symm
theorem flen_of {κ α : Type} {f : FMap κ α} {l : List (κ × α)} (h : Lists f l) : flen f = l.length := by
  unfold flen
  have hx : ∃ l, Lists f l := ⟨l, h⟩
  rw [dif_pos hx]
  exact congrArg _ (hx.choose_spec.one h).length_eq
section
variable [Trk] {P : Program} {kt : TypeId} {κ α : Type} {K : Ky P kt κ} {E : Enc α} {ag : Bool}
variable {N : Nat} {ops : Array Oper} {q : Md} {rest : List Oper} {ds : List Deferred} {L : Env} {w w0 : World} {A B : Out} {X : Nat → Out} {Z : List PanicEntry → Out} {d : Nat} {ty : TypeId} {pos : String} {af : Array Edge} {Mu M : List Nat} {σ : List Res}
theorem y_lenM (i : Nat) {b : Nat} {f : FMap κ α} {x : Operand} {t e : TypeId} (hI : Hp w0 Mu M σ w) (hi : σ[i]? = some (mapO K E ag b f)) (hx : ev L x = some (.map (some b))) (ht : P.underlying t = some (.map kt e)) (hN : Nat.blt d N = true)
    (h : Reg P N ops .seq rest ds ((d, .int .i64 (flen f)) :: L) w A B X Z) : Reg P N ops .seq (⟨some d, .call ⟨.builtin .len, #[x], #[t]⟩, ty, pos, af, none⟩ :: rest) ds L w A B X Z := by
  obtain ⟨es, c, xs, h1, h2, h3, h4⟩ := hI.mapAt' i hi
  refine Reg.eff _ w rfl rfl hN (fun a ha => ?_) h
  have hl : (es.size : Int) = flen f := by rw [flen_of h4, ← h3.len]; simp
  simp [execOp, resolve, invoke, builtin, Builtin.len_, ha.eval hx, run_underlying ht, MapKept.run_getObj_map h1, goInt, hl]
end
theorem key2a {P : Program} {t u : TypeId} {q : IntKind} (hu : P.underlying t = some (.array 2 u))
    (hk : P.underlying u = some (.int q)) (hc : P.cellsOf t = 2) (hcu : P.cellsOf u = 1) (hty : P.keyType t = true) (hsz : 0 < P.types.size) {x y : Int} (hx : InK q x) (hy : InK q y) : ∃ l, keyOf P t (.agg (List.toArray [.int q x, .int q y])) = some l := by
  have w1 : ∀ {z : Int}, InK q z → (Lit.int q z).wf = true := fun {z} h => by simp only [Lit.wf, decide_eq_true_eq, Bool.and_eq_true]; exact h
  have hl : ∀ (n : Nat) {z : Int}, InK q z → P.keyLits (n + 1) u [.int q z] = some [.int q z] := fun n {z} h => by
    unfold Program.keyLits
    rw [hk]; simp [w1 h]
  have hs : ∀ n : Nat, P.keyLits (n + 1 + 1) t [.int q x, .int q y] = some [.int q x, .int q y] := fun n => by
    unfold Program.keyLits
    rw [hu]
    have e0 : ((List.drop 0 [Value.int q x, Value.int q y]).take 1) = [Value.int q x] := rfl
    have e1 : ((List.drop 1 [Value.int q x, Value.int q y]).take 1) = [Value.int q y] := rfl
    have e2 : List.range 2 = [0, 1] := rfl
    simp [hc, hcu, e2, hl n hx, hl n hy]
  obtain ⟨n, hn⟩ : ∃ n, P.types.size + 1 = n + 1 + 1 := by
    refine ⟨P.types.size - 1, ?_⟩
    omega
  refine ⟨.string (keyBytes [.int q x, .int q y]), ?_⟩
  unfold keyOf
  rw [hu]
  have hf : (Value.agg (List.toArray [Value.int q x, Value.int q y])).formed P t = true := by simp [Value.formed, hu, hc]
  simp only [hty, hf, Bool.and_self, if_true]
  rw [hn]
  show (P.keyLits (n + 1 + 1) t [.int q x, .int q y]).map _ = _
  rw [hs n]; rfl
end Go.Sx
