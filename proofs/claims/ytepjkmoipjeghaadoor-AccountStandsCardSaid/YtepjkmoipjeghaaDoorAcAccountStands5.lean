/-
  Part AccountStands 5 of the texts that the statement's proof stands on: what memory holds, how code is walked, what the functions reckon. In the order in which they build.
-/
import Derived.Test.YtepjkmoipjeghaaDoorProg
import Derived.Shelf.SlGeneric
import Derived.Shelf.SlLaysF0
import Derived.Ground.SlsfProg
import Derived.Shelf.SlSortCmp.WholeK
import Derived.Shelf.SlSortCmp.NoneTotal
import Derived.Test.YtepjkmoipjeghaaDoorAcAccountStands4
set_option linter.unusedVariables false
set_option linter.unusedSectionVars false
set_option maxRecDepth 20000
set_option maxHeartbeats 4000000
namespace Go.Proofs.YtepjkmoipjeghaaDoor
open Go Go.Sx Go.RowKit
variable [Trk]
noncomputable def P.cmp_isNaN_92 (x : Int) : Option Bool :=
 some (!decide (x = x))
theorem C_cmp_isNaN_92 {M : List Nat} {w : World} (hM : MLt M w) {x : Int} (f_x_0 : InK .i64 x) {r0 : Bool} (h : P.cmp_isNaN_92 x = some r0) :
  Calls Tryd.prog 92 (List.toArray [Value.int .i64 x]) w fun e w' => e = .returned (Value.bool r0) ∧ Ext w w' := by
 have hI := Hp.start (Mu := []) hM
 refine calls_cw Tryd.func92 rfl Tryd.ntmps92 rfl ?_
 refine cw_seq (cw_regF ?_)
 refine s_as rfl rfl ?_
 refine Reg.nil ?_
 refine cw_seq (cw_regF ?_)
 refine s_mv rfl rfl ?_
 refine s_mv rfl rfl ?_
 refine s_neq rfl rfl rfl ?_
 refine s_as rfl rfl ?_
 refine Reg.nil ?_
 refine cw_ret ?_
 obtain rfl := Option.some.inj h
 refine fin1 Tryd.results92 rfl ?_
 exact ⟨rfl, hI.kp⟩
noncomputable def P.cmp_Compare_72 (x : Int) (y : Int) : Option Int :=
 Option.bind (P.cmp_isNaN_92 x) fun z1 => Option.bind (P.cmp_isNaN_92 y) fun z6 => cond z1 (cond z6 (some 0) (some (-1))) (cond z6 (some 1) (cond (decide (x < y)) (some (-1)) (cond (decide (y < x)) (some 1) (some 0))))
theorem C_cmp_Compare_72 {M : List Nat} {w : World} (hM : MLt M w) {x : Int} (f_x_0 : InK .i64 x) {y : Int} (f_y_0 : InK .i64 y) {r0 : Int} (h : P.cmp_Compare_72 x y = some r0) :
  Calls Tryd.prog 72 (List.toArray [Value.int .i64 x, Value.int .i64 y]) w fun e w' => e = .returned (Value.int .i64 r0) ∧ InK .i64 r0 ∧ Ext w w' := by
 have hI := Hp.start (Mu := []) hM
 refine calls_cw Tryd.func72 rfl Tryd.ntmps72 rfl ?_
 refine cw_seq (cw_regF ?_)
 refine s_as rfl rfl ?_
 refine Reg.nil ?_
 refine cw_seq (cw_regF ?_)
 refine s_mv rfl rfl ?_
 obtain ⟨z1, hz2, h⟩ := bnd h
 refine s_call rfl Tryd.call92 rfl ?_
 refine (C_cmp_isNaN_92 hI.mlt f_x_0 hz2).mono ?_
 rintro _ w3 ⟨rfl, e4⟩
 refine ⟨_, rfl, ?_⟩
 have hI5 := hI.ext e4
 refine s_as rfl rfl ?_
 refine Reg.nil ?_
 refine cw_seq (cw_regF ?_)
 refine s_mv rfl rfl ?_
 obtain ⟨z6, hz7, h⟩ := bnd h
 refine s_call rfl Tryd.call92 rfl ?_
 refine (C_cmp_isNaN_92 hI5.mlt f_y_0 hz7).mono ?_
 rintro _ w8 ⟨rfl, e9⟩
 refine ⟨_, rfl, ?_⟩
 have hI10 := hI5.ext e9
 refine s_as rfl rfl ?_
 refine Reg.nil ?_
 refine cw_seq (cw_seq (cw_regF ?_))
 refine s_mv rfl rfl ?_
 refine Reg.nil ?_
 refine cw_cond rfl (fun hc11 => ?_) (fun hc11 => ?_)
 ·replace h := cdT hc11 h
  refine cw_seq (cw_seq (cw_regF ?_))
  refine s_mv rfl rfl ?_
  refine Reg.nil ?_
  refine cw_cond rfl (fun hc12 => ?_) (fun hc12 => ?_)
  ·replace h := cdT hc12 h
   refine cw_seq (cw_regF ?_)
   refine s_as rfl rfl ?_
   refine Reg.nil ?_
   refine cw_ret ?_
   obtain rfl := Option.some.inj h
   refine fin1 Tryd.results72 rfl ?_
   exact ⟨rfl, (by decide), hI10.kp⟩
  ·replace h := cdF hc12 h
   refine cw_skip (cw_seq (cw_regF ?_))
   refine s_as rfl rfl ?_
   refine Reg.nil ?_
   refine cw_ret ?_
   obtain rfl := Option.some.inj h
   refine fin1 Tryd.results72 rfl ?_
   exact ⟨rfl, (by decide), hI10.kp⟩
 ·replace h := cdF hc11 h
  refine cw_skip (cw_seq (cw_seq (cw_regF ?_)))
  refine s_mv rfl rfl ?_
  refine Reg.nil ?_
  refine cw_cond rfl (fun hc13 => ?_) (fun hc13 => ?_)
  ·replace h := cdT hc13 h
   refine cw_seq (cw_regF ?_)
   refine s_as rfl rfl ?_
   refine Reg.nil ?_
   refine cw_ret ?_
   obtain rfl := Option.some.inj h
   refine fin1 Tryd.results72 rfl ?_
   exact ⟨rfl, (by decide), hI10.kp⟩
  ·replace h := cdF hc13 h
   refine cw_skip (cw_seq (cw_seq (cw_regF ?_)))
   refine s_mv rfl rfl ?_
   refine s_mv rfl rfl ?_
   refine s_lss rfl rfl rfl ?_
   refine Reg.nil ?_
   refine cw_cond rfl (fun hc14 => ?_) (fun hc14 => ?_)
   ·replace h := cdT hc14 h
    refine cw_seq (cw_regF ?_)
    refine s_as rfl rfl ?_
    refine Reg.nil ?_
    refine cw_ret ?_
    obtain rfl := Option.some.inj h
    refine fin1 Tryd.results72 rfl ?_
    exact ⟨rfl, (by decide), hI10.kp⟩
   ·replace h := cdF hc14 h
    refine cw_skip (cw_seq (cw_seq (cw_regF ?_)))
    refine s_mv rfl rfl ?_
    refine s_mv rfl rfl ?_
    refine s_gtr rfl rfl rfl ?_
    refine Reg.nil ?_
    refine cw_cond rfl (fun hc15 => ?_) (fun hc15 => ?_)
    ·replace h := cdT hc15 h
     refine cw_seq (cw_regF ?_)
     refine s_as rfl rfl ?_
     refine Reg.nil ?_
     refine cw_ret ?_
     obtain rfl := Option.some.inj h
     refine fin1 Tryd.results72 rfl ?_
     exact ⟨rfl, (by decide), hI10.kp⟩
    ·replace h := cdF hc15 h
     refine cw_skip (cw_seq (cw_regF ?_))
     refine s_as rfl rfl ?_
     refine Reg.nil ?_
     refine cw_ret ?_
     obtain rfl := Option.some.inj h
     refine fin1 Tryd.results72 rfl ?_
     exact ⟨rfl, (by decide), hI10.kp⟩
noncomputable def P.cmp_Or_71 (vals : (List Int)) : Option Int :=
 Option.bind (loopM (S := Int) (R := (Unit) ⊕ (Int)) (fun x1 => cond (decide (x1 < (vals.length : Int))) (Option.bind (ixo vals x1) fun y3 => cond (!decide (y3 = 0)) (some (.inr (.inr y3))) (Option.bind (chk .i64 (x1 + 1)) fun n11 => some (.inl n11))) (some (.inr (.inl ())))) 0) fun j12 => Sum.elim (fun _ => some 0) (fun r13 => some r13)  j12
theorem C_cmp_Or_71 {M : List Nat} {w : World} (hM : MLt M w) {vals : (List Int)} {v_vals_0 : Value} (f_vals_0 : RdS (intE .i64) M w v_vals_0 vals) {r0 : Int} (h : P.cmp_Or_71 vals = some r0) :
  Calls Tryd.prog 71 (List.toArray [v_vals_0]) w fun e w' => e = .returned (Value.int .i64 r0) ∧ InK .i64 r0 ∧ Ext w w' := by
 have hI := Hp.start (Mu := []) hM
 refine calls_cw Tryd.func71 rfl Tryd.ntmps71 rfl ?_
 refine cw_seq (cw_regF ?_)
 refine s_as rfl rfl ?_
 refine Reg.nil ?_
 refine cw_seq (cw_regF ?_)
 refine s_as rfl rfl ?_
 refine Reg.nil ?_
 refine cw_seq (cw_seq (cw_regF ?_))
 refine s_mv rfl rfl ?_
 refine s_len rfl f_vals_0 Tryd.underlying36 rfl ?_
 refine s_mv rfl rfl ?_
 refine Reg.nil ?_
 obtain ⟨j1, h2, h⟩ := bnd h
 refine cw_sub (L := [(6, _), (7, _), (8, _), (3, _)]) (Sub.cons rfl (Sub.cons rfl (Sub.cons rfl (Sub.cons rfl (Sub.nil _))))) ?_
 refine cw_unitD 3 (ι := Unit) (fun _ => []) (fun _ => fun w3 => w = w3 ∧ (.inl ()) = j1) ?_ ?_
 ·skip
  refine cw_block ?_
  refine cw_sub (L := [(8, _), (3, _), (6, _), (7, _)]) (Sub.cons rfl (Sub.cons rfl (Sub.cons rfl (Sub.cons rfl (Sub.nil _))))) ?_
  refine cw_loopM 1 (ι := Int) _ (fun x6 => [(8, Value.int .i64 x6)]) (fun x6 => x6) (fun x6 => fun w8 => w = w8 ∧ InK .i64 x6) 0 h2 ⟨rfl, (by decide)⟩ (Sub.cons rfl (Sub.cons rfl (Sub.cons rfl (Sub.cons rfl (Sub.nil _))))) ?_
  rintro x6 _ ⟨rfl, r7⟩ y11 h12 hR13
  refine cw_seq (cw_regF ?_)
  refine s_lss rfl rfl rfl ?_
  refine Reg.nil ?_
  refine cw_seq ?_
  refine cw_cond rfl (fun hc14 => ?_) (fun hc14 => ?_)
  ·replace h12 := cdT hc14 h12
   refine cw_skip ?_
   refine cw_seq ?_
   refine cw_block ?_
   refine cw_seq (cw_regF ?_)
   obtain ⟨y15, hy15, h12⟩ := bnd h12
   refine p_ia rfl rfl f_vals_0 hy15 Tryd.underlying36 Tryd.sizeOf3 rfl ?_
   intro b16 o17 cs18 hR19 hC20
   obtain ⟨rfl, r21⟩ := hR19
   refine s_ld rfl (hC20.cells.at 0 rfl) Tryd.isAgg3 rfl ?_
   refine s_as rfl rfl ?_
   refine Reg.nil ?_
   refine cw_seq (cw_regF ?_)
   refine s_mv rfl rfl ?_
   refine s_mv rfl rfl ?_
   refine s_neq rfl rfl rfl ?_
   refine Reg.nil ?_
   refine cw_cond rfl (fun hc22 => ?_) (fun hc22 => ?_)
   ·replace h12 := cdT hc22 h12
    refine cw_seq (cw_regF ?_)
    refine s_mv rfl rfl ?_
    refine s_as rfl rfl ?_
    refine Reg.nil ?_
    refine cw_ret ?_
    obtain rfl := Option.some.inj h12
    obtain rfl := hR13 _ rfl
    replace h := elimR h
    obtain rfl := Option.some.inj h
    refine fin1 Tryd.results71 rfl ?_
    exact ⟨rfl, r21, hI.kp⟩
   ·replace h12 := cdF hc22 h12
    refine cw_skip ?_
    refine cw_regF ?_
    obtain ⟨n23, hn23, h12⟩ := bnd h12
    replace hn23 := chk_out hn23
    refine p_add rfl rfl rfl hn23 ?_
    refine s_mv rfl rfl ?_
    refine Reg.nil ?_
    obtain rfl := Option.some.inj h12
    refine ⟨rfl, n23, ⟨⟨rfl, hn23.2⟩, rfl⟩, Sub.cons rfl (Sub.cons rfl (Sub.cons rfl (Sub.cons rfl (Sub.nil _))))⟩
  ·replace h12 := cdF hc14 h12
   refine cw_exit ?_
   refine exB_same ?_
   obtain rfl := Option.some.inj h12
   obtain rfl := hR13 _ rfl
   refine ⟨rfl, (), ⟨rfl, rfl⟩, Sub.cons rfl (Sub.nil _)⟩
 ·skip
  rintro _ _ ⟨rfl, rfl⟩
  replace h := elimL h
  refine cw_seq (cw_regF ?_)
  refine s_mv rfl rfl ?_
  refine s_as rfl rfl ?_
  refine Reg.nil ?_
  refine cw_ret ?_
  obtain rfl := Option.some.inj h
  refine fin1 Tryd.results71 rfl ?_
  exact ⟨rfl, (by decide), hI.kp⟩
noncomputable def P.account_open (l : (List Report)) (known : Int) : Option Desk :=
 Option.bind (loopM (S := Int × (FMap Int Report)) (R := ((FMap Int Report))) (fun (x24, x25) => cond (decide (x24 < (l.length : Int))) (Option.bind (Option.bind (ixo l x24) fun y27 => Option.bind (cond (decide (y27.made ≤ known)) (some (fput x25 y27.id (Report.mk y27.id y27.source y27.account y27.made y27.about y27.kind y27.cents y27.of_))) (some x25)) fun x54 => some x54) fun x55 => Option.bind (chk .i64 (x24 + 1)) fun n56 => some (.inl (n56, x55))) (some (.inr x25))) (0, fnone)) fun x57 => Option.bind (anyM (S := (FMap Int Int)) (fun x70 (y71 : Int × Report) => Option.bind (Option.bind (P.account_store_aim (Store.mk x57) (Report.mk y71.2.id y71.2.source y71.2.account y71.2.made y71.2.about y71.2.kind y71.2.cents y71.2.of_)) fun (z96, z97) => Option.bind (cond (decide (y71.2.kind = 9)) (cond z97 (some (!decide (z96.kind = 9))) (some false)) (some false)) fun x121 => Option.bind (cond x121 (Option.bind (some ((x70 z96.id).getD 0)) fun y123 => Option.bind (cond (!((x70 z96.id).isSome)) (some true) (some (decide (y71.2.id < y123)))) fun x129 => Option.bind (cond x129 (some (fput x70 z96.id y71.2.id)) (some x70)) fun x134 => some x134) (some x70)) fun x135 => some x135) fun x136 => some x136) x57 fnone) fun x137 => Option.bind (anyM (S := (FMap Int Int)) (fun x148 (y149 : Int × Report) => Option.bind (Option.bind (P.account_store_aim (Store.mk x57) (Report.mk y149.2.id y149.2.source y149.2.account y149.2.made y149.2.about y149.2.kind y149.2.cents y149.2.of_)) fun (z174, z175) => Option.bind (cond (!decide (y149.2.kind = 8)) (some true) (cond (!z175) (some true) (Option.bind (P.account_fact (Report.mk z174.id z174.source z174.account z174.made z174.about z174.kind z174.cents z174.of_)) fun z205 => cond (!z205) (some true) (Option.bind (ixo glob0 z174.kind) fun y213 => Option.bind (P.account_in 0 y213 ([y149.2.cents] : List Int)) fun z224 => cond (!z224) (some true) (Option.bind (P.account_desk_away (Desk.mk (Store.mk x57) x137 x148) y149.2.id) fun z234 => cond z234 (some true) (Option.bind (P.account_desk_away (Desk.mk (Store.mk x57) x137 x148) z174.id) fun z242 => some z242)))))) fun x249 => cond x249 (some x148) (Option.bind (some ((x148 z174.id).getD 0)) fun y251 => Option.bind (some ((x57 y251).getD (Report.mk 0 0 0 0 0 0 0 0))) fun y256 => Option.bind (cond (!((x148 z174.id).isSome)) (some true) (Option.bind (P.cmp_Compare_72 y256.made y149.2.made) fun z282 => Option.bind (P.cmp_Compare_72 y251 y149.2.id) fun z287 => Option.bind (P.cmp_Or_71 ([z282, z287] : List Int)) fun z301 => Option.bind (chk .i64 z301) fun n307 => some (decide (z301 < 0)))) fun x311 => Option.bind (cond x311 (some (fput x148 z174.id y149.2.id)) (some x148)) fun x316 => some x316)) fun x317 => some x317) x57 fnone) fun x318 => some (Desk.mk (Store.mk x57) x137 x318)
theorem C_account_open {M : List Nat} {w : World} (hM : MLt M w) (hG : RdC M w 0 0 (glob0.map (Value.int .i64))) {l : (List Report)} {v_l_0 : Value} (f_l_0 : RdS ReportE M w v_l_0 l) {known : Int} (f_known_0 : InK .i64 known) {r0 : Desk} (h : P.account_open l known = some r0) :
  Calls Tryd.prog 37 (List.toArray [v_l_0, Value.int .i64 known]) w fun e w' => ∃ v0_0 : Value, ∃ v0_1 : Value, ∃ v0_2 : Value, e = .returned (Value.agg (List.toArray [v0_0, v0_1, v0_2])) ∧ RdF Ky3 ReportE true M w' v0_0 r0.store.reports ∧ RdF Ky3 (intE .i64) false M w' v0_1 r0.gone ∧ RdF Ky3 (intE .i64) false M w' v0_2 r0.fixed ∧ Ext w w' := by
 have hI := Hp.start (Mu := []) hM
 refine calls_cw Tryd.func37 rfl Tryd.ntmps37 rfl ?_
 refine cw_seq (cw_regF ?_)
 refine y_al hI Tryd.zeroValue92 rfl rfl ?_
 intro b1 w2 hI3 x4
 refine Reg.nil ?_
 refine cw_seq (cw_regF ?_)
 refine y_mkF Ky3 ReportE true hI3 rfl ?_
 intro b5 w6 hI7 x8
 refine s_bd [(0, 1)] Tryd.zeroValue90 rfl Tryd.underlying90 (fun _ => by simp [Tryd.sizeOf88]) rfl (Cls.cons rfl (Cls.nil)) rfl rfl ?_
 refine y_mkF Ky3 (intE .i64) false hI7 rfl ?_
 intro b9 w10 hI11 x12
 refine y_mkF Ky3 (intE .i64) false hI11 rfl ?_
 intro b13 w14 hI15 x16
 refine s_bd [(0, 1), (1, 1), (2, 1)] Tryd.zeroValue92 rfl Tryd.underlying92 (fun _ => by simp [Tryd.sizeOf79, Tryd.sizeOf90]) rfl (Cls.cons rfl (Cls.cons rfl (Cls.cons rfl (Cls.nil)))) rfl rfl ?_
 refine y_al hI15 Tryd.zeroValue92 rfl rfl ?_
 intro b17 w18 hI19 x20
 refine y_st 0 hI19 rfl rfl rfl rfl Tryd.sizeOf92 rfl rfl (one1 rfl (one1 rfl (one1 rfl one0))) ?_
 intro w21 hI22 x23
 refine Reg.nil ?_
 refine cw_seq (cw_seq (cw_regF ?_))
 refine s_mv rfl rfl ?_
 refine s_len rfl (f_l_0.adv hI22.adv) Tryd.underlying22 rfl ?_
 refine s_mv rfl rfl ?_
 refine Reg.nil ?_
 obtain ⟨j24, h25, h⟩ := bnd h
 refine cw_sub (L := [(1, _), (26, _), (27, _), (28, _), (4, _), (5, _)]) (Sub.cons rfl (Sub.cons rfl (Sub.cons rfl (Sub.cons rfl (Sub.cons rfl (Sub.cons rfl (Sub.nil _))))))) ?_
 refine cw_unitD 4 (ι := (FMap Int Report)) (fun x26 => []) (fun x26 => fun w27 => Hp w [] M [rowR 92 b17 [Value.map (some b5), Value.map (some b9), Value.map (some b13)], mapO Ky3 (intE .i64) false b13 fnone, mapO Ky3 (intE .i64) false b9 fnone, mapO Ky3 ReportE true b5 x26, rowR 92 b1 [Value.map none, Value.map none, Value.map none]] w27 ∧ Adv (mm [rowR 92 b17 [Value.map (some b5), Value.map (some b9), Value.map (some b13)], mapO Ky3 (intE .i64) false b13 fnone, mapO Ky3 (intE .i64) false b9 fnone, mapO Ky3 ReportE true b5 fnone, rowR 92 b1 [Value.map none, Value.map none, Value.map none]] M) (mm [rowR 92 b17 [Value.map (some b5), Value.map (some b9), Value.map (some b13)], mapO Ky3 (intE .i64) false b13 fnone, mapO Ky3 (intE .i64) false b9 fnone, mapO Ky3 ReportE true b5 x26, rowR 92 b1 [Value.map none, Value.map none, Value.map none]] M) w21 w27 ∧ x26 = j24) ?_ ?_
 ·skip
  refine cw_block ?_
  refine cw_sub (L := [(28, _), (1, _), (4, _), (5, _), (26, _), (27, _)]) (Sub.cons rfl (Sub.cons rfl (Sub.cons rfl (Sub.cons rfl (Sub.cons rfl (Sub.cons rfl (Sub.nil _))))))) ?_
  refine cw_loopM 1 (ι := Int × (FMap Int Report)) _ (fun ⟨x30, x32⟩ => [(28, Value.int .i64 x30)]) (fun ⟨x30, x32⟩ => (x30, x32)) (fun ⟨x30, x32⟩ => fun w33 => Hp w [] M [rowR 92 b17 [Value.map (some b5), Value.map (some b9), Value.map (some b13)], mapO Ky3 (intE .i64) false b13 fnone, mapO Ky3 (intE .i64) false b9 fnone, mapO Ky3 ReportE true b5 x32, rowR 92 b1 [Value.map none, Value.map none, Value.map none]] w33 ∧ Adv (mm [rowR 92 b17 [Value.map (some b5), Value.map (some b9), Value.map (some b13)], mapO Ky3 (intE .i64) false b13 fnone, mapO Ky3 (intE .i64) false b9 fnone, mapO Ky3 ReportE true b5 fnone, rowR 92 b1 [Value.map none, Value.map none, Value.map none]] M) (mm [rowR 92 b17 [Value.map (some b5), Value.map (some b9), Value.map (some b13)], mapO Ky3 (intE .i64) false b13 fnone, mapO Ky3 (intE .i64) false b9 fnone, mapO Ky3 ReportE true b5 x32, rowR 92 b1 [Value.map none, Value.map none, Value.map none]] M) w21 w33 ∧ InK .i64 x30) (0, fnone) h25 ⟨hI22, (Adv.refl _ _), (by decide)⟩ (Sub.cons rfl (Sub.cons rfl (Sub.cons rfl (Sub.cons rfl (Sub.cons rfl (Sub.cons rfl (Sub.nil _))))))) ?_
  rintro ⟨x30, x32⟩ w33 ⟨hI34, hA35, r31⟩ y36 h37 hR38
  refine cw_seq (cw_regF ?_)
  refine s_lss rfl rfl rfl ?_
  refine Reg.nil ?_
  refine cw_seq ?_
  refine cw_cond rfl (fun hc39 => ?_) (fun hc39 => ?_)
  ·replace h37 := cdT hc39 h37
   refine cw_skip ?_
   obtain ⟨j40, h41, h37⟩ := bnd h37
   refine cw_sub (L := [(1, _), (4, _), (5, _), (26, _), (27, _), (28, _)]) (Sub.cons rfl (Sub.cons rfl (Sub.cons rfl (Sub.cons rfl (Sub.cons rfl (Sub.cons rfl (Sub.nil _))))))) ?_
   refine cw_seqD 0 (ι := (FMap Int Report)) (fun x42 => []) (fun x42 => fun w43 => Hp w [] M [rowR 92 b17 [Value.map (some b5), Value.map (some b9), Value.map (some b13)], mapO Ky3 (intE .i64) false b13 fnone, mapO Ky3 (intE .i64) false b9 fnone, mapO Ky3 ReportE true b5 x42, rowR 92 b1 [Value.map none, Value.map none, Value.map none]] w43 ∧ Adv (mm [rowR 92 b17 [Value.map (some b5), Value.map (some b9), Value.map (some b13)], mapO Ky3 (intE .i64) false b13 fnone, mapO Ky3 (intE .i64) false b9 fnone, mapO Ky3 ReportE true b5 x32, rowR 92 b1 [Value.map none, Value.map none, Value.map none]] M) (mm [rowR 92 b17 [Value.map (some b5), Value.map (some b9), Value.map (some b13)], mapO Ky3 (intE .i64) false b13 fnone, mapO Ky3 (intE .i64) false b9 fnone, mapO Ky3 ReportE true b5 x42, rowR 92 b1 [Value.map none, Value.map none, Value.map none]] M) w33 w43 ∧ x42 = j40) ?_ ?_
   ·skip
    refine cw_block ?_
    refine cw_seq (cw_regF ?_)
    obtain ⟨y46, hy46, h41⟩ := bnd h41
    refine p_ia rfl rfl (f_l_0.adv hI34.adv) hy46 Tryd.underlying22 Tryd.sizeOf61 rfl ?_
    intro b47 o48 cs49 hR50 hC51
    obtain ⟨rfl, r52, r53, r54, r55, r56, r57, r58, r59⟩ := ReportE_R.1 hR50
    refine s_lda rfl hC51.cells Tryd.isAgg61 rfl Tryd.sizeOf61 rfl ?_
    refine y_al hI34 Tryd.zeroValue61 rfl rfl ?_
    intro b60 w61 hI62 x63
    refine y_st 0 hI62 rfl rfl rfl rfl Tryd.sizeOf61 rfl rfl (one1 rfl (one1 rfl (one1 rfl (one1 rfl (one1 rfl (one1 rfl (one1 rfl (one1 rfl one0)))))))) ?_
    intro w64 hI65 x66
    have hC68 := hI65.freezeRow 0 rfl
    have hI67 := hI65.erase 0
    refine Reg.nil ?_
    refine cw_seq (cw_regF ?_)
    refine s_fa rfl Tryd.underlying61 rfl Tryd.sizeOf3 rfl ?_
    refine s_ld rfl (hC68.cells.at 3 rfl) Tryd.isAgg3 rfl ?_
    refine s_mv rfl rfl ?_
    refine s_leq rfl rfl rfl ?_
    refine Reg.nil ?_
    obtain ⟨j69, h70, h41⟩ := bnd h41
    refine cw_sub (L := [(7, _), (35, _), (1, _), (4, _), (5, _), (26, _), (27, _), (28, _)]) (Sub.cons rfl (Sub.cons rfl (Sub.cons rfl (Sub.cons rfl (Sub.cons rfl (Sub.cons rfl (Sub.cons rfl (Sub.cons rfl (Sub.nil _))))))))) ?_
    refine cw_unitD 2 (ι := (FMap Int Report)) (fun x71 => []) (fun x71 => fun w72 => Hp w [] M [rowR 92 b17 [Value.map (some b5), Value.map (some b9), Value.map (some b13)], mapO Ky3 (intE .i64) false b13 fnone, mapO Ky3 (intE .i64) false b9 fnone, mapO Ky3 ReportE true b5 x71, rowR 92 b1 [Value.map none, Value.map none, Value.map none]] w72 ∧ Adv (mm [rowR 92 b17 [Value.map (some b5), Value.map (some b9), Value.map (some b13)], mapO Ky3 (intE .i64) false b13 fnone, mapO Ky3 (intE .i64) false b9 fnone, mapO Ky3 ReportE true b5 x32, rowR 92 b1 [Value.map none, Value.map none, Value.map none]] M) (mm [rowR 92 b17 [Value.map (some b5), Value.map (some b9), Value.map (some b13)], mapO Ky3 (intE .i64) false b13 fnone, mapO Ky3 (intE .i64) false b9 fnone, mapO Ky3 ReportE true b5 x71, rowR 92 b1 [Value.map none, Value.map none, Value.map none]] M) w64 w72 ∧ x71 = j69) ?_ ?_
    ·skip
     refine cw_cond rfl (fun hc75 => ?_) (fun hc75 => ?_)
     ·replace h70 := cdT hc75 h70
      refine cw_regF ?_
      refine s_fa rfl Tryd.underlying92 rfl Tryd.sizeOf90 rfl ?_
      refine s_fa rfl Tryd.underlying90 rfl Tryd.sizeOf88 rfl ?_
      refine s_ld rfl ((hI67.row 0 rfl).rd.cells.at 0 rfl) Tryd.isAgg88 rfl ?_
      refine s_fa rfl Tryd.underlying61 rfl Tryd.sizeOf3 rfl ?_
      refine s_ld rfl (hC68.cells.at 0 rfl) Tryd.isAgg3 rfl ?_
      refine s_lda rfl hC68.cells Tryd.isAgg61 rfl Tryd.sizeOf61 rfl ?_
      refine y_upF 3 (a := y46.id) (z := (Report.mk y46.id y46.source y46.account y46.made y46.about y46.kind y46.cents y46.of_)) hI67 rfl rfl rfl (show InK .i64 y46.id from r52) rfl ⟨_, ((ReportE_R (x := (Report.mk y46.id y46.source y46.account y46.made y46.about y46.kind y46.cents y46.of_))).2 ⟨rfl, r52, r53, r54, r55, r56, r57, r58, r59⟩), .inl ⟨rfl, rfl⟩⟩ Tryd.underlying88 ?_
      intro w76 hI77 x78
      refine Reg.nil ?_
      obtain rfl := Option.some.inj h70
      refine ⟨rfl, (fput x32 y46.id (Report.mk y46.id y46.source y46.account y46.made y46.about y46.kind y46.cents y46.of_)), ⟨hI77, x78, rfl⟩, Sub.cons rfl (Sub.cons rfl (Sub.cons rfl (Sub.cons rfl (Sub.cons rfl (Sub.cons rfl (Sub.nil _))))))⟩
     ·replace h70 := cdF hc75 h70
      refine cw_skip ?_
      obtain rfl := Option.some.inj h70
      refine ⟨rfl, x32, ⟨hI67, (Adv.refl _ _), rfl⟩, Sub.cons rfl (Sub.cons rfl (Sub.cons rfl (Sub.cons rfl (Sub.cons rfl (Sub.cons rfl (Sub.nil _))))))⟩
    ·skip
     rintro x71 w72 ⟨hI73, hA74, rfl⟩
     obtain rfl := Option.some.inj h41
     refine ⟨rfl, x71, ⟨hI73, (x63.trans (x66.trans ((Hp.eraseA (σ := [rowR 61 b60 [Value.int .i64 y46.id, Value.int .i64 y46.source, Value.int .i64 y46.account, Value.int .i64 y46.made, Value.int .i64 y46.about, Value.int IntKind.u8 (y46.kind), Value.int .i64 y46.cents, Value.int .i64 y46.of_], rowR 92 b17 [Value.map (some b5), Value.map (some b9), Value.map (some b13)], mapO Ky3 (intE .i64) false b13 fnone, mapO Ky3 (intE .i64) false b9 fnone, mapO Ky3 ReportE true b5 x32, rowR 92 b1 [Value.map none, Value.map none, Value.map none]]) 0).trans hA74))), rfl⟩, Sub.cons rfl (Sub.cons rfl (Sub.cons rfl (Sub.cons rfl (Sub.cons rfl (Sub.cons rfl (Sub.nil _))))))⟩
   ·skip
    rintro x42 w43 ⟨hI44, hA45, rfl⟩
    refine cw_regF ?_
    obtain ⟨n79, hn79, h37⟩ := bnd h37
    replace hn79 := chk_out hn79
    refine p_add rfl rfl rfl hn79 ?_
    refine s_mv rfl rfl ?_
    refine Reg.nil ?_
    obtain rfl := Option.some.inj h37
    refine ⟨rfl, (n79, x42), ⟨⟨hI44, (hA35.trans hA45), hn79.2⟩, rfl⟩, Sub.cons rfl (Sub.cons rfl (Sub.cons rfl (Sub.cons rfl (Sub.cons rfl (Sub.cons rfl (Sub.nil _))))))⟩
  ·replace h37 := cdF hc39 h37
   refine cw_exit ?_
   refine exB_same ?_
   obtain rfl := Option.some.inj h37
   obtain rfl := hR38 _ rfl
   refine ⟨rfl, x32, ⟨hI34, hA35, rfl⟩, Sub.cons rfl (Sub.cons rfl (Sub.nil _))⟩
 ·skip
  rintro x26 w27 ⟨hI28, hA29, rfl⟩
  refine cw_seq (cw_seq (cw_regF ?_))
  refine s_fa rfl Tryd.underlying92 rfl Tryd.sizeOf90 rfl ?_
  refine s_fa rfl Tryd.underlying90 rfl Tryd.sizeOf88 rfl ?_
  refine s_ld rfl ((hI28.row 0 rfl).rd.cells.at 0 rfl) Tryd.isAgg88 rfl ?_
  have hf80 := hI28.freezeM 3 rfl
  have hI81 := hI28.erase 3
  refine y_rg hI81 hf80 rfl Tryd.underlying88 rfl ?_
  intro r82 b83 c84 es85 xs86 w87 hX88 hL89 hI90 x91
  refine Reg.nil ?_
  obtain ⟨j92, h93, h⟩ := bnd h
  refine cw_sub (L := [(46, _), (4, _), (5, _)]) (Sub.cons rfl (Sub.cons rfl (Sub.cons rfl (Sub.nil _)))) ?_
  refine cw_unitD 1 (ι := (FMap Int Int)) (fun x94 => []) (fun x94 => fun w95 => Hp w [] M [rowR 92 b17 [(Value.map (some b5)), Value.map (some b9), Value.map (some b13)], mapO Ky3 (intE .i64) false b13 fnone, mapO Ky3 (intE .i64) false b9 x94, rowR 92 b1 [Value.map none, Value.map none, Value.map none]] w95 ∧ Adv (mm [itR r82 b83 c84 es85 xs86 none xs86, rowR 92 b17 [(Value.map (some b5)), Value.map (some b9), Value.map (some b13)], mapO Ky3 (intE .i64) false b13 fnone, mapO Ky3 (intE .i64) false b9 fnone, rowR 92 b1 [Value.map none, Value.map none, Value.map none]] M) (mm [rowR 92 b17 [(Value.map (some b5)), Value.map (some b9), Value.map (some b13)], mapO Ky3 (intE .i64) false b13 fnone, mapO Ky3 (intE .i64) false b9 x94, rowR 92 b1 [Value.map none, Value.map none, Value.map none]] M) w87 w95 ∧ x94 = j92) ?_ ?_
  ·skip
   refine cw_block ?_
   refine cw_sub (L := [(4, _), (5, _), (46, _)]) (Sub.cons rfl (Sub.cons rfl (Sub.cons rfl (Sub.nil _)))) ?_
   refine cw_loopA 0 (ι := (FMap Int Int)) _ (fun x99 => []) (fun x99 => x99) (fun x99 => fun l98 w100 => Hp w [] M [itR r82 b83 c84 es85 xs86 none l98, rowR 92 b17 [(Value.map (some b5)), Value.map (some b9), Value.map (some b13)], mapO Ky3 (intE .i64) false b13 fnone, mapO Ky3 (intE .i64) false b9 x99, rowR 92 b1 [Value.map none, Value.map none, Value.map none]] w100 ∧ Adv (mm [itR r82 b83 c84 es85 xs86 none xs86, rowR 92 b17 [(Value.map (some b5)), Value.map (some b9), Value.map (some b13)], mapO Ky3 (intE .i64) false b13 fnone, mapO Ky3 (intE .i64) false b9 fnone, rowR 92 b1 [Value.map none, Value.map none, Value.map none]] M) (mm [itR r82 b83 c84 es85 xs86 none l98, rowR 92 b17 [(Value.map (some b5)), Value.map (some b9), Value.map (some b13)], mapO Ky3 (intE .i64) false b13 fnone, mapO Ky3 (intE .i64) false b9 x99, rowR 92 b1 [Value.map none, Value.map none, Value.map none]] M) w87 w100) fnone xs86 (anyM_out h93 hL89) ⟨hI90, (Adv.refl _ _)⟩ (Sub.cons rfl (Sub.cons rfl (Sub.cons rfl (Sub.nil _)))) ?_
   rintro x99 l98 w100 ⟨hI101, hA102⟩ h104 hR105
   refine cw_seq (cw_regF ?_)
   refine y_nx 0 hI101 (hX88.adv (x91.trans hA102)) rfl rfl rfl (fun hn106 => ?_) ?_
   ·skip
    obtain rfl := h104 hn106
    have hI116 := hI101.erase 0
    refine s_xt rfl rfl rfl ?_
    refine Reg.nil ?_
    refine cw_seq ?_
    refine cw_condF rfl ?_
    refine cw_exit ?_
    refine exB_same ?_
    refine ⟨rfl, x99, ⟨hI116, (hA102.trans (Hp.eraseA (σ := [itR r82 b83 c84 es85 xs86 none l98, rowR 92 b17 [(Value.map (some b5)), Value.map (some b9), Value.map (some b13)], mapO Ky3 (intE .i64) false b13 fnone, mapO Ky3 (intE .i64) false b9 x99, rowR 92 b1 [Value.map none, Value.map none, Value.map none]]) (M := M) 0)), rfl⟩, Sub.cons rfl (Sub.cons rfl (Sub.nil _))⟩
   ·skip
    intro y107 l108 k109 v110 w111 hp112 hI113 x114
    obtain ⟨shB115, hB115⟩ := hR105 y107 l108 hp112
    have zhB115 := hB115
    refine s_xt rfl rfl rfl ?_
    refine Reg.nil ?_
    refine cw_seq ?_
    refine cw_condT rfl ?_
    refine cw_skip ?_
    obtain ⟨j117, h118, hB115⟩ := bnd hB115
    refine cw_sub (L := [(4, _), (5, _), (46, _)]) (Sub.cons rfl (Sub.cons rfl (Sub.cons rfl (Sub.nil _)))) ?_
    refine cw_unitD 0 (ι := (FMap Int Int)) (fun x119 => []) (fun x119 => fun w120 => Hp w [] M [itR r82 b83 c84 es85 xs86 none l108, rowR 92 b17 [(Value.map (some b5)), Value.map (some b9), Value.map (some b13)], mapO Ky3 (intE .i64) false b13 fnone, mapO Ky3 (intE .i64) false b9 x119, rowR 92 b1 [Value.map none, Value.map none, Value.map none]] w120 ∧ Adv (mm [itR r82 b83 c84 es85 xs86 (some y107) l108, rowR 92 b17 [(Value.map (some b5)), Value.map (some b9), Value.map (some b13)], mapO Ky3 (intE .i64) false b13 fnone, mapO Ky3 (intE .i64) false b9 x99, rowR 92 b1 [Value.map none, Value.map none, Value.map none]] M) (mm [itR r82 b83 c84 es85 xs86 none l108, rowR 92 b17 [(Value.map (some b5)), Value.map (some b9), Value.map (some b13)], mapO Ky3 (intE .i64) false b13 fnone, mapO Ky3 (intE .i64) false b9 x119, rowR 92 b1 [Value.map none, Value.map none, Value.map none]] M) w111 w120 ∧ x119 = j117) ?_ ?_
    ·skip
     refine cw_block ?_
     refine cw_seq (cw_regF ?_)
     refine y_en 0 hI113 (hX88.adv (x91.trans (hA102.trans x114))) rfl rfl rfl ?_
     intro v123 hk124 hv125
     obtain ⟨cs126, hR127, rfl⟩ := Vl.agg hv125
     obtain ⟨rfl, r128, r129, r130, r131, r132, r133, r134, r135⟩ := ReportE_R.1 hR127
     have hI136 := hI113.itOff 0 rfl
     refine s_xt rfl rfl rfl ?_
     refine y_al hI136 Tryd.zeroValue61 rfl rfl ?_
     intro b137 w138 hI139 x140
     refine y_st 0 hI139 rfl rfl rfl rfl Tryd.sizeOf61 rfl rfl (one1 rfl (one1 rfl (one1 rfl (one1 rfl (one1 rfl (one1 rfl (one1 rfl (one1 rfl one0)))))))) ?_
     intro w141 hI142 x143
     have hC145 := hI142.freezeRow 0 rfl
     have hI144 := hI142.erase 0
     refine Reg.nil ?_
     refine cw_seq (cw_regF ?_)
     refine s_fa rfl Tryd.underlying92 rfl Tryd.sizeOf90 rfl ?_
     refine s_lda rfl (Cells.sub (hI144.row 1 rfl).rd.cells 0 1) Tryd.isAgg90 rfl Tryd.sizeOf90 rfl ?_
     refine s_lda rfl hC145.cells Tryd.isAgg61 rfl Tryd.sizeOf61 rfl ?_
     obtain ⟨⟨z146, z147⟩, hz148, h118⟩ := bnd h118
     refine s_call rfl Tryd.call42 rfl ?_
     refine (C_account_store_aim (s := (Store.mk x26)) (r := (Report.mk y107.2.id y107.2.source y107.2.account y107.2.made y107.2.about y107.2.kind y107.2.cents y107.2.of_)) hI144.mlt (hf80.adv (x91.trans (hA102.trans (x114.trans ((Hp.itOffA (σ := [itR r82 b83 c84 es85 xs86 (some y107) l108, rowR 92 b17 [(Value.map (some b5)), Value.map (some b9), Value.map (some b13)], mapO Ky3 (intE .i64) false b13 fnone, mapO Ky3 (intE .i64) false b9 x99, rowR 92 b1 [Value.map none, Value.map none, Value.map none]]) (M := M) 0 rfl).trans (x140.trans (x143.trans (Hp.eraseA (σ := [rowR 61 b137 [Value.int .i64 y107.2.id, Value.int .i64 y107.2.source, Value.int .i64 y107.2.account, Value.int .i64 y107.2.made, Value.int .i64 y107.2.about, Value.int IntKind.u8 (y107.2.kind), Value.int .i64 y107.2.cents, Value.int .i64 y107.2.of_], itR r82 b83 c84 es85 xs86 none l108, rowR 92 b17 [(Value.map (some b5)), Value.map (some b9), Value.map (some b13)], mapO Ky3 (intE .i64) false b13 fnone, mapO Ky3 (intE .i64) false b9 x99, rowR 92 b1 [Value.map none, Value.map none, Value.map none]]) 0)))))))) r128 r129 r130 r131 r132 r133 r134 r135 hz148).mono ?_
     rintro _ w149 ⟨rfl, r151, r152, r153, r154, r155, r156, r157, r158, e150⟩
     refine ⟨_, rfl, ?_⟩
     have hI159 := hI144.ext e150
     refine s_mv rfl rfl ?_
     refine s_xt rfl rfl rfl ?_
     refine s_xt rfl rfl rfl ?_
     refine y_al hI159 Tryd.zeroValue61 rfl rfl ?_
     intro b160 w161 hI162 x163
     refine y_st 0 hI162 rfl rfl rfl rfl Tryd.sizeOf61 rfl rfl (one1 rfl (one1 rfl (one1 rfl (one1 rfl (one1 rfl (one1 rfl (one1 rfl (one1 rfl one0)))))))) ?_
     intro w164 hI165 x166
     have hC168 := hI165.freezeRow 0 rfl
     have hI167 := hI165.erase 0
     refine s_as rfl rfl ?_
     refine Reg.nil ?_
     obtain ⟨j169, h170, h118⟩ := bnd h118
     refine cw_sub (L := [(11, _), (4, _), (5, _), (9, _), (10, _), (46, _)]) (Sub.cons rfl (Sub.cons rfl (Sub.cons rfl (Sub.cons rfl (Sub.cons rfl (Sub.cons rfl (Sub.nil _))))))) ?_
     refine cw_seqD 1 (ι := Bool) (fun x171 => [(68, Value.bool x171)]) (fun x171 => fun w172 => w164 = w172 ∧ x171 = j169) ?_ ?_
     ·skip
      refine cw_regF ?_
      refine s_fa rfl Tryd.underlying61 rfl Tryd.sizeOf5 rfl ?_
      refine s_ld rfl ((hC145.adv ((Adv.of_ext e150).trans (x163.trans (x166.trans (Hp.eraseA (σ := [rowR 61 b160 [Value.int .i64 z146.id, Value.int .i64 z146.source, Value.int .i64 z146.account, Value.int .i64 z146.made, Value.int .i64 z146.about, Value.int IntKind.u8 (z146.kind), Value.int .i64 z146.cents, Value.int .i64 z146.of_], itR r82 b83 c84 es85 xs86 none l108, rowR 92 b17 [(Value.map (some b5)), Value.map (some b9), Value.map (some b13)], mapO Ky3 (intE .i64) false b13 fnone, mapO Ky3 (intE .i64) false b9 x99, rowR 92 b1 [Value.map none, Value.map none, Value.map none]]) 0))))).cells.at 5 rfl) Tryd.isAgg5 rfl ?_
      refine s_eql rfl rfl rfl ?_
      refine s_mv rfl rfl ?_
      refine Reg.gsplit (t := 61) rfl (fun hg175 => ?_) (fun hg175 => ?_)
      ·replace h170 := cdT hg175 h170
       refine Reg.take rfl rfl ?_
       refine s_mv rfl rfl ?_
       refine s_pkT rfl rfl rfl ?_
       refine s_mv rfl rfl ?_
       refine Reg.gsplit (t := 64) rfl (fun hg176 => ?_) (fun hg176 => ?_)
       ·replace h170 := cdT hg176 h170
        refine Reg.take rfl rfl ?_
        refine s_fa rfl Tryd.underlying61 rfl Tryd.sizeOf5 rfl ?_
        refine Reg.take rfl rfl ?_
        refine s_ld rfl (hC168.cells.at 5 rfl) Tryd.isAgg5 rfl ?_
        refine Reg.take rfl rfl ?_
        refine s_neq rfl rfl rfl ?_
        refine s_pkT rfl rfl rfl ?_
        refine Reg.nil ?_
        obtain rfl := Option.some.inj h170
        refine ⟨rfl, !decide (z146.kind = 9), ⟨rfl, rfl⟩, Sub.cons rfl (Sub.cons rfl (Sub.cons rfl (Sub.cons rfl (Sub.cons rfl (Sub.cons rfl (Sub.nil _))))))⟩
       ·replace h170 := cdF hg176 h170
        refine Reg.pass rfl rfl rfl rfl ?_
        refine Reg.pass rfl rfl rfl rfl ?_
        refine Reg.pass rfl rfl rfl rfl ?_
        refine s_pkF rfl rfl rfl ?_
        refine Reg.nil ?_
        obtain rfl := Option.some.inj h170
        refine ⟨rfl, false, ⟨rfl, rfl⟩, Sub.cons rfl (Sub.cons rfl (Sub.cons rfl (Sub.cons rfl (Sub.cons rfl (Sub.cons rfl (Sub.nil _))))))⟩
      ·replace h170 := cdF hg175 h170
       refine Reg.pass rfl rfl rfl rfl ?_
       refine s_pkF rfl rfl rfl ?_
       refine s_mv rfl rfl ?_
       refine Reg.pass rfl rfl rfl rfl ?_
       refine Reg.pass rfl rfl rfl rfl ?_
       refine Reg.pass rfl rfl rfl rfl ?_
       refine s_pkF rfl rfl rfl ?_
       refine Reg.nil ?_
       obtain rfl := Option.some.inj h170
       refine ⟨rfl, false, ⟨rfl, rfl⟩, Sub.cons rfl (Sub.cons rfl (Sub.cons rfl (Sub.cons rfl (Sub.cons rfl (Sub.cons rfl (Sub.nil _))))))⟩
     ·skip
      rintro x171 _ ⟨rfl, rfl⟩
      obtain ⟨j177, h178, h118⟩ := bnd h118
      refine cw_sub (L := [(9, _), (10, _), (68, _), (4, _), (5, _), (46, _)]) (Sub.cons rfl (Sub.cons rfl (Sub.cons rfl (Sub.cons rfl (Sub.cons rfl (Sub.cons rfl (Sub.nil _))))))) ?_
      refine cw_unitD 3 (ι := (FMap Int Int)) (fun x179 => []) (fun x179 => fun w180 => Hp w [] M [itR r82 b83 c84 es85 xs86 none l108, rowR 92 b17 [(Value.map (some b5)), Value.map (some b9), Value.map (some b13)], mapO Ky3 (intE .i64) false b13 fnone, mapO Ky3 (intE .i64) false b9 x179, rowR 92 b1 [Value.map none, Value.map none, Value.map none]] w180 ∧ Adv (mm [itR r82 b83 c84 es85 xs86 none l108, rowR 92 b17 [(Value.map (some b5)), Value.map (some b9), Value.map (some b13)], mapO Ky3 (intE .i64) false b13 fnone, mapO Ky3 (intE .i64) false b9 x99, rowR 92 b1 [Value.map none, Value.map none, Value.map none]] M) (mm [itR r82 b83 c84 es85 xs86 none l108, rowR 92 b17 [(Value.map (some b5)), Value.map (some b9), Value.map (some b13)], mapO Ky3 (intE .i64) false b13 fnone, mapO Ky3 (intE .i64) false b9 x179, rowR 92 b1 [Value.map none, Value.map none, Value.map none]] M) w164 w180 ∧ x179 = j177) ?_ ?_
      ·skip
       refine cw_cond rfl (fun hc183 => ?_) (fun hc183 => ?_)
       ·replace h178 := cdT hc183 h178
        refine cw_seq (cw_regF ?_)
        refine s_fa rfl Tryd.underlying92 rfl Tryd.sizeOf79 rfl ?_
        refine s_ld rfl ((hI167.row 1 rfl).rd.cells.at 1 rfl) Tryd.isAgg79 rfl ?_
        refine s_fa rfl Tryd.underlying61 rfl Tryd.sizeOf3 rfl ?_
        refine s_ld rfl (hC168.cells.at 0 rfl) Tryd.isAgg3 rfl ?_
        obtain ⟨y184, hy184, h178⟩ := bnd h178
        refine y_lkF 3 (a := z146.id) (z0 := 0) hI167 rfl rfl rfl (show InK .i64 z146.id from r151) Tryd.underlying79 Tryd.zeroValue3 ⟨_, ⟨rfl, (by decide)⟩, .inr ⟨rfl, rfl⟩⟩ rfl ?_
        intro v185 hv186
        rw [Option.some.inj hy184] at hv186
        have hR187 := Vl.one1 hv186
        obtain ⟨r188', r188⟩ := hR187
        obtain rfl := one_inj r188'
        refine s_mv rfl rfl ?_
        refine s_xt rfl rfl rfl ?_
        refine s_xt rfl rfl rfl ?_
        refine s_as rfl rfl ?_
        refine s_as rfl rfl ?_
        refine Reg.nil ?_
        obtain ⟨j189, h190, h178⟩ := bnd h178
        refine cw_sub (L := [(12, _), (13, _), (4, _), (5, _), (9, _), (10, _), (46, _)]) (Sub.cons rfl (Sub.cons rfl (Sub.cons rfl (Sub.cons rfl (Sub.cons rfl (Sub.cons rfl (Sub.cons rfl (Sub.nil _)))))))) ?_
        refine cw_seqD 2 (ι := Bool) (fun x191 => [(84, Value.bool x191)]) (fun x191 => fun w192 => w164 = w192 ∧ x191 = j189) ?_ ?_
        ·skip
         refine cw_regF ?_
         refine s_mv rfl rfl ?_
         refine s_not rfl rfl ?_
         refine s_mv rfl rfl ?_
         refine Reg.gsplit (t := 79) rfl (fun hg195 => ?_) (fun hg195 => ?_)
         ·replace h190 := cdT hg195 h190
          refine Reg.pass rfl rfl rfl rfl ?_
          refine Reg.pass rfl rfl rfl rfl ?_
          refine Reg.pass rfl rfl rfl rfl ?_
          refine Reg.pass rfl rfl rfl rfl ?_
          refine s_pkT rfl rfl rfl ?_
          refine Reg.nil ?_
          obtain rfl := Option.some.inj h190
          refine ⟨rfl, true, ⟨rfl, rfl⟩, Sub.cons rfl (Sub.cons rfl (Sub.cons rfl (Sub.cons rfl (Sub.cons rfl (Sub.cons rfl (Sub.nil _))))))⟩
         ·replace h190 := cdF hg195 h190
          refine Reg.take rfl rfl ?_
          refine s_fa rfl Tryd.underlying61 rfl Tryd.sizeOf3 rfl ?_
          refine Reg.take rfl rfl ?_
          refine s_ld rfl ((hC145.adv ((Adv.of_ext e150).trans (x163.trans (x166.trans (Hp.eraseA (σ := [rowR 61 b160 [Value.int .i64 z146.id, Value.int .i64 z146.source, Value.int .i64 z146.account, Value.int .i64 z146.made, Value.int .i64 z146.about, Value.int IntKind.u8 (z146.kind), Value.int .i64 z146.cents, Value.int .i64 z146.of_], itR r82 b83 c84 es85 xs86 none l108, rowR 92 b17 [(Value.map (some b5)), Value.map (some b9), Value.map (some b13)], mapO Ky3 (intE .i64) false b13 fnone, mapO Ky3 (intE .i64) false b9 x99, rowR 92 b1 [Value.map none, Value.map none, Value.map none]]) 0))))).cells.at 0 rfl) Tryd.isAgg3 rfl ?_
          refine Reg.take rfl rfl ?_
          refine s_mv rfl rfl ?_
          refine Reg.take rfl rfl ?_
          refine s_lss rfl rfl rfl ?_
          refine s_pkF rfl rfl rfl ?_
          refine Reg.nil ?_
          obtain rfl := Option.some.inj h190
          refine ⟨rfl, decide (y107.2.id < y184), ⟨rfl, rfl⟩, Sub.cons rfl (Sub.cons rfl (Sub.cons rfl (Sub.cons rfl (Sub.cons rfl (Sub.cons rfl (Sub.nil _))))))⟩
        ·skip
         rintro x191 _ ⟨rfl, rfl⟩
         obtain ⟨j196, h197, h178⟩ := bnd h178
         refine cw_sub (L := [(9, _), (10, _), (84, _), (4, _), (5, _), (46, _)]) (Sub.cons rfl (Sub.cons rfl (Sub.cons rfl (Sub.cons rfl (Sub.cons rfl (Sub.cons rfl (Sub.nil _))))))) ?_
         refine cw_unitD 3 (ι := (FMap Int Int)) (fun x198 => []) (fun x198 => fun w199 => Hp w [] M [itR r82 b83 c84 es85 xs86 none l108, rowR 92 b17 [(Value.map (some b5)), Value.map (some b9), Value.map (some b13)], mapO Ky3 (intE .i64) false b13 fnone, mapO Ky3 (intE .i64) false b9 x198, rowR 92 b1 [Value.map none, Value.map none, Value.map none]] w199 ∧ Adv (mm [itR r82 b83 c84 es85 xs86 none l108, rowR 92 b17 [(Value.map (some b5)), Value.map (some b9), Value.map (some b13)], mapO Ky3 (intE .i64) false b13 fnone, mapO Ky3 (intE .i64) false b9 x99, rowR 92 b1 [Value.map none, Value.map none, Value.map none]] M) (mm [itR r82 b83 c84 es85 xs86 none l108, rowR 92 b17 [(Value.map (some b5)), Value.map (some b9), Value.map (some b13)], mapO Ky3 (intE .i64) false b13 fnone, mapO Ky3 (intE .i64) false b9 x198, rowR 92 b1 [Value.map none, Value.map none, Value.map none]] M) w164 w199 ∧ x198 = j196) ?_ ?_
         ·skip
          refine cw_cond rfl (fun hc202 => ?_) (fun hc202 => ?_)
          ·replace h197 := cdT hc202 h197
           refine cw_regF ?_
           refine s_fa rfl Tryd.underlying92 rfl Tryd.sizeOf79 rfl ?_
           refine s_ld rfl ((hI167.row 1 rfl).rd.cells.at 1 rfl) Tryd.isAgg79 rfl ?_
           refine s_fa rfl Tryd.underlying61 rfl Tryd.sizeOf3 rfl ?_
           refine s_ld rfl (hC168.cells.at 0 rfl) Tryd.isAgg3 rfl ?_
           refine s_fa rfl Tryd.underlying61 rfl Tryd.sizeOf3 rfl ?_
           refine s_ld rfl ((hC145.adv ((Adv.of_ext e150).trans (x163.trans (x166.trans (Hp.eraseA (σ := [rowR 61 b160 [Value.int .i64 z146.id, Value.int .i64 z146.source, Value.int .i64 z146.account, Value.int .i64 z146.made, Value.int .i64 z146.about, Value.int IntKind.u8 (z146.kind), Value.int .i64 z146.cents, Value.int .i64 z146.of_], itR r82 b83 c84 es85 xs86 none l108, rowR 92 b17 [(Value.map (some b5)), Value.map (some b9), Value.map (some b13)], mapO Ky3 (intE .i64) false b13 fnone, mapO Ky3 (intE .i64) false b9 x99, rowR 92 b1 [Value.map none, Value.map none, Value.map none]]) 0))))).cells.at 0 rfl) Tryd.isAgg3 rfl ?_
           refine y_upF 3 (a := z146.id) (z := y107.2.id) hI167 rfl rfl rfl (show InK .i64 z146.id from r151) rfl ⟨_, ⟨rfl, r128⟩, .inr ⟨rfl, rfl⟩⟩ Tryd.underlying79 ?_
           intro w203 hI204 x205
           refine Reg.nil ?_
           obtain rfl := Option.some.inj h197
           refine ⟨rfl, (fput x99 z146.id y107.2.id), ⟨hI204, x205, rfl⟩, Sub.cons rfl (Sub.cons rfl (Sub.cons rfl (Sub.nil _)))⟩
          ·replace h197 := cdF hc202 h197
           refine cw_skip ?_
           obtain rfl := Option.some.inj h197
           refine ⟨rfl, x99, ⟨hI167, (Adv.refl _ _), rfl⟩, Sub.cons rfl (Sub.cons rfl (Sub.cons rfl (Sub.nil _)))⟩
         ·skip
          rintro x198 w199 ⟨hI200, hA201, rfl⟩
          obtain rfl := Option.some.inj h178
          refine ⟨rfl, x198, ⟨hI200, hA201, rfl⟩, Sub.cons rfl (Sub.cons rfl (Sub.cons rfl (Sub.nil _)))⟩
       ·replace h178 := cdF hc183 h178
        refine cw_skip ?_
        obtain rfl := Option.some.inj h178
        refine ⟨rfl, x99, ⟨hI167, (Adv.refl _ _), rfl⟩, Sub.cons rfl (Sub.cons rfl (Sub.cons rfl (Sub.nil _)))⟩
      ·skip
       rintro x179 w180 ⟨hI181, hA182, rfl⟩
       obtain rfl := Option.some.inj h118
       refine ⟨rfl, x179, ⟨hI181, ((Hp.itOffA (σ := [itR r82 b83 c84 es85 xs86 (some y107) l108, rowR 92 b17 [(Value.map (some b5)), Value.map (some b9), Value.map (some b13)], mapO Ky3 (intE .i64) false b13 fnone, mapO Ky3 (intE .i64) false b9 x99, rowR 92 b1 [Value.map none, Value.map none, Value.map none]]) (M := M) 0 rfl).trans (x140.trans (x143.trans ((Hp.eraseA (σ := [rowR 61 b137 [Value.int .i64 y107.2.id, Value.int .i64 y107.2.source, Value.int .i64 y107.2.account, Value.int .i64 y107.2.made, Value.int .i64 y107.2.about, Value.int IntKind.u8 (y107.2.kind), Value.int .i64 y107.2.cents, Value.int .i64 y107.2.of_], itR r82 b83 c84 es85 xs86 none l108, rowR 92 b17 [(Value.map (some b5)), Value.map (some b9), Value.map (some b13)], mapO Ky3 (intE .i64) false b13 fnone, mapO Ky3 (intE .i64) false b9 x99, rowR 92 b1 [Value.map none, Value.map none, Value.map none]]) 0).trans ((Adv.of_ext e150).trans (x163.trans (x166.trans ((Hp.eraseA (σ := [rowR 61 b160 [Value.int .i64 z146.id, Value.int .i64 z146.source, Value.int .i64 z146.account, Value.int .i64 z146.made, Value.int .i64 z146.about, Value.int IntKind.u8 (z146.kind), Value.int .i64 z146.cents, Value.int .i64 z146.of_], itR r82 b83 c84 es85 xs86 none l108, rowR 92 b17 [(Value.map (some b5)), Value.map (some b9), Value.map (some b13)], mapO Ky3 (intE .i64) false b13 fnone, mapO Ky3 (intE .i64) false b9 x99, rowR 92 b1 [Value.map none, Value.map none, Value.map none]]) 0).trans hA182)))))))), rfl⟩, Sub.cons rfl (Sub.cons rfl (Sub.cons rfl (Sub.nil _)))⟩
    ·skip
     rintro x119 w120 ⟨hI121, hA122, rfl⟩
     obtain rfl := Option.some.inj hB115
     refine ⟨rfl, x119, y107, l108, ⟨hp112, zhB115, ⟨hI121, (hA102.trans (x114.trans hA122))⟩⟩, Sub.cons rfl (Sub.cons rfl (Sub.cons rfl (Sub.nil _)))⟩
  ·skip
   rintro x94 w95 ⟨hI96, hA97, rfl⟩
   refine cw_seq (cw_seq (cw_regF ?_))
   refine s_fa rfl Tryd.underlying92 rfl Tryd.sizeOf90 rfl ?_
   refine s_fa rfl Tryd.underlying90 rfl Tryd.sizeOf88 rfl ?_
   refine s_ld rfl ((hI96.row 0 rfl).rd.cells.at 0 rfl) Tryd.isAgg88 rfl ?_
   refine y_rg hI96 (hf80.adv (x91.trans hA97)) rfl Tryd.underlying88 rfl ?_
   intro r206 b207 c208 es209 xs210 w211 hX212 hL213 hI214 x215
   refine Reg.nil ?_
   obtain ⟨j216, h217, h⟩ := bnd h
   refine cw_sub (L := [(94, _), (4, _), (5, _)]) (Sub.cons rfl (Sub.cons rfl (Sub.cons rfl (Sub.nil _)))) ?_
   refine cw_unitD 1 (ι := (FMap Int Int)) (fun x218 => []) (fun x218 => fun w219 => Hp w [] M [rowR 92 b17 [(Value.map (some b5)), Value.map (some b9), Value.map (some b13)], mapO Ky3 (intE .i64) false b13 x218, mapO Ky3 (intE .i64) false b9 x94, rowR 92 b1 [Value.map none, Value.map none, Value.map none]] w219 ∧ Adv (mm [itR r206 b207 c208 es209 xs210 none xs210, rowR 92 b17 [(Value.map (some b5)), Value.map (some b9), Value.map (some b13)], mapO Ky3 (intE .i64) false b13 fnone, mapO Ky3 (intE .i64) false b9 x94, rowR 92 b1 [Value.map none, Value.map none, Value.map none]] M) (mm [rowR 92 b17 [(Value.map (some b5)), Value.map (some b9), Value.map (some b13)], mapO Ky3 (intE .i64) false b13 x218, mapO Ky3 (intE .i64) false b9 x94, rowR 92 b1 [Value.map none, Value.map none, Value.map none]] M) w211 w219 ∧ x218 = j216) ?_ ?_
   ·skip
    refine cw_block ?_
    refine cw_sub (L := [(4, _), (5, _), (94, _)]) (Sub.cons rfl (Sub.cons rfl (Sub.cons rfl (Sub.nil _)))) ?_
    refine cw_loopA 0 (ι := (FMap Int Int)) _ (fun x223 => []) (fun x223 => x223) (fun x223 => fun l222 w224 => Hp w [] M [itR r206 b207 c208 es209 xs210 none l222, rowR 92 b17 [(Value.map (some b5)), Value.map (some b9), Value.map (some b13)], mapO Ky3 (intE .i64) false b13 x223, mapO Ky3 (intE .i64) false b9 x94, rowR 92 b1 [Value.map none, Value.map none, Value.map none]] w224 ∧ Adv (mm [itR r206 b207 c208 es209 xs210 none xs210, rowR 92 b17 [(Value.map (some b5)), Value.map (some b9), Value.map (some b13)], mapO Ky3 (intE .i64) false b13 fnone, mapO Ky3 (intE .i64) false b9 x94, rowR 92 b1 [Value.map none, Value.map none, Value.map none]] M) (mm [itR r206 b207 c208 es209 xs210 none l222, rowR 92 b17 [(Value.map (some b5)), Value.map (some b9), Value.map (some b13)], mapO Ky3 (intE .i64) false b13 x223, mapO Ky3 (intE .i64) false b9 x94, rowR 92 b1 [Value.map none, Value.map none, Value.map none]] M) w211 w224) fnone xs210 (anyM_out h217 hL213) ⟨hI214, (Adv.refl _ _)⟩ (Sub.cons rfl (Sub.cons rfl (Sub.cons rfl (Sub.nil _)))) ?_
    rintro x223 l222 w224 ⟨hI225, hA226⟩ h228 hR229
    refine cw_seq (cw_regF ?_)
    refine y_nx 0 hI225 (hX212.adv (x215.trans hA226)) rfl rfl rfl (fun hn230 => ?_) ?_
    ·skip
     obtain rfl := h228 hn230
     have hI240 := hI225.erase 0
     refine s_xt rfl rfl rfl ?_
     refine Reg.nil ?_
     refine cw_seq ?_
     refine cw_condF rfl ?_
     refine cw_exit ?_
     refine exB_same ?_
     refine ⟨rfl, x223, ⟨hI240, (hA226.trans (Hp.eraseA (σ := [itR r206 b207 c208 es209 xs210 none l222, rowR 92 b17 [(Value.map (some b5)), Value.map (some b9), Value.map (some b13)], mapO Ky3 (intE .i64) false b13 x223, mapO Ky3 (intE .i64) false b9 x94, rowR 92 b1 [Value.map none, Value.map none, Value.map none]]) (M := M) 0)), rfl⟩, Sub.cons rfl (Sub.cons rfl (Sub.nil _))⟩
    ·skip
     intro y231 l232 k233 v234 w235 hp236 hI237 x238
     obtain ⟨shB239, hB239⟩ := hR229 y231 l232 hp236
     have zhB239 := hB239
     refine s_xt rfl rfl rfl ?_
     refine Reg.nil ?_
     refine cw_seq ?_
     refine cw_condT rfl ?_
     refine cw_skip ?_
     obtain ⟨j241, h242, hB239⟩ := bnd hB239
     refine cw_sub (L := [(4, _), (5, _), (94, _)]) (Sub.cons rfl (Sub.cons rfl (Sub.cons rfl (Sub.nil _)))) ?_
     refine cw_unitD 0 (ι := (FMap Int Int)) (fun x243 => []) (fun x243 => fun w244 => Hp w [] M [itR r206 b207 c208 es209 xs210 none l232, rowR 92 b17 [(Value.map (some b5)), Value.map (some b9), Value.map (some b13)], mapO Ky3 (intE .i64) false b13 x243, mapO Ky3 (intE .i64) false b9 x94, rowR 92 b1 [Value.map none, Value.map none, Value.map none]] w244 ∧ Adv (mm [itR r206 b207 c208 es209 xs210 (some y231) l232, rowR 92 b17 [(Value.map (some b5)), Value.map (some b9), Value.map (some b13)], mapO Ky3 (intE .i64) false b13 x223, mapO Ky3 (intE .i64) false b9 x94, rowR 92 b1 [Value.map none, Value.map none, Value.map none]] M) (mm [itR r206 b207 c208 es209 xs210 none l232, rowR 92 b17 [(Value.map (some b5)), Value.map (some b9), Value.map (some b13)], mapO Ky3 (intE .i64) false b13 x243, mapO Ky3 (intE .i64) false b9 x94, rowR 92 b1 [Value.map none, Value.map none, Value.map none]] M) w235 w244 ∧ x243 = j241) ?_ ?_
     ·skip
      refine cw_block ?_
      refine cw_seq (cw_regF ?_)
      refine y_en 0 hI237 (hX212.adv (x215.trans (hA226.trans x238))) rfl rfl rfl ?_
      intro v247 hk248 hv249
      obtain ⟨cs250, hR251, rfl⟩ := Vl.agg hv249
      obtain ⟨rfl, r252, r253, r254, r255, r256, r257, r258, r259⟩ := ReportE_R.1 hR251
      have hI260 := hI237.itOff 0 rfl
      refine s_xt rfl rfl rfl ?_
      refine y_al hI260 Tryd.zeroValue61 rfl rfl ?_
      intro b261 w262 hI263 x264
      refine y_st 0 hI263 rfl rfl rfl rfl Tryd.sizeOf61 rfl rfl (one1 rfl (one1 rfl (one1 rfl (one1 rfl (one1 rfl (one1 rfl (one1 rfl (one1 rfl one0)))))))) ?_
      intro w265 hI266 x267
      have hC269 := hI266.freezeRow 0 rfl
      have hI268 := hI266.erase 0
      refine Reg.nil ?_
      refine cw_seq (cw_regF ?_)
      refine s_fa rfl Tryd.underlying92 rfl Tryd.sizeOf90 rfl ?_
      refine s_lda rfl (Cells.sub (hI268.row 1 rfl).rd.cells 0 1) Tryd.isAgg90 rfl Tryd.sizeOf90 rfl ?_
      refine s_lda rfl hC269.cells Tryd.isAgg61 rfl Tryd.sizeOf61 rfl ?_
      obtain ⟨⟨z270, z271⟩, hz272, h242⟩ := bnd h242
      refine s_call rfl Tryd.call42 rfl ?_
      refine (C_account_store_aim (s := (Store.mk x26)) (r := (Report.mk y231.2.id y231.2.source y231.2.account y231.2.made y231.2.about y231.2.kind y231.2.cents y231.2.of_)) hI268.mlt (hf80.adv (x91.trans (hA97.trans (x215.trans (hA226.trans (x238.trans ((Hp.itOffA (σ := [itR r206 b207 c208 es209 xs210 (some y231) l232, rowR 92 b17 [(Value.map (some b5)), Value.map (some b9), Value.map (some b13)], mapO Ky3 (intE .i64) false b13 x223, mapO Ky3 (intE .i64) false b9 x94, rowR 92 b1 [Value.map none, Value.map none, Value.map none]]) (M := M) 0 rfl).trans (x264.trans (x267.trans (Hp.eraseA (σ := [rowR 61 b261 [Value.int .i64 y231.2.id, Value.int .i64 y231.2.source, Value.int .i64 y231.2.account, Value.int .i64 y231.2.made, Value.int .i64 y231.2.about, Value.int IntKind.u8 (y231.2.kind), Value.int .i64 y231.2.cents, Value.int .i64 y231.2.of_], itR r206 b207 c208 es209 xs210 none l232, rowR 92 b17 [(Value.map (some b5)), Value.map (some b9), Value.map (some b13)], mapO Ky3 (intE .i64) false b13 x223, mapO Ky3 (intE .i64) false b9 x94, rowR 92 b1 [Value.map none, Value.map none, Value.map none]]) 0)))))))))) r252 r253 r254 r255 r256 r257 r258 r259 hz272).mono ?_
      rintro _ w273 ⟨rfl, r275, r276, r277, r278, r279, r280, r281, r282, e274⟩
      refine ⟨_, rfl, ?_⟩
      have hI283 := hI268.ext e274
      refine s_mv rfl rfl ?_
      refine s_xt rfl rfl rfl ?_
      refine s_xt rfl rfl rfl ?_
      refine y_al hI283 Tryd.zeroValue61 rfl rfl ?_
      intro b284 w285 hI286 x287
      refine y_st 0 hI286 rfl rfl rfl rfl Tryd.sizeOf61 rfl rfl (one1 rfl (one1 rfl (one1 rfl (one1 rfl (one1 rfl (one1 rfl (one1 rfl (one1 rfl one0)))))))) ?_
      intro w288 hI289 x290
      have hC292 := hI289.freezeRow 0 rfl
      have hI291 := hI289.erase 0
      refine s_as rfl rfl ?_
      refine Reg.nil ?_
      refine cw_seq ?_
      obtain ⟨j293, h294, h242⟩ := bnd h242
      refine cw_sub (L := [(17, _), (4, _), (5, _), (15, _), (16, _), (94, _)]) (Sub.cons rfl (Sub.cons rfl (Sub.cons rfl (Sub.cons rfl (Sub.cons rfl (Sub.cons rfl (Sub.nil _))))))) ?_
      refine cw_seqD 1 (ι := Bool) (fun x295 => [(140, Value.bool x295)]) (fun x295 => fun w296 => Hp w [] M [itR r206 b207 c208 es209 xs210 none l232, rowR 92 b17 [(Value.map (some b5)), Value.map (some b9), Value.map (some b13)], mapO Ky3 (intE .i64) false b13 x223, mapO Ky3 (intE .i64) false b9 x94, rowR 92 b1 [Value.map none, Value.map none, Value.map none]] w296 ∧ Adv (mm [itR r206 b207 c208 es209 xs210 none l232, rowR 92 b17 [(Value.map (some b5)), Value.map (some b9), Value.map (some b13)], mapO Ky3 (intE .i64) false b13 x223, mapO Ky3 (intE .i64) false b9 x94, rowR 92 b1 [Value.map none, Value.map none, Value.map none]] M) (mm [itR r206 b207 c208 es209 xs210 none l232, rowR 92 b17 [(Value.map (some b5)), Value.map (some b9), Value.map (some b13)], mapO Ky3 (intE .i64) false b13 x223, mapO Ky3 (intE .i64) false b9 x94, rowR 92 b1 [Value.map none, Value.map none, Value.map none]] M) w288 w296 ∧ x295 = j293) ?_ ?_
      ·skip
       refine cw_regD [0, 1, 2, 3, 4, 5, 6, 7, 8, 9, 10, 11, 12, 13, 14, 15, 16, 17, 18, 19, 20, 21, 22, 23, 24, 25, 26, 27, 28, 29, 30, 31, 32, 33, 34] [] fol (by kernel_rfl) rfl rfl ?_
       refine s_fa rfl Tryd.underlying61 rfl Tryd.sizeOf5 rfl ?_
       refine s_ld rfl ((hC269.adv ((Adv.of_ext e274).trans (x287.trans (x290.trans (Hp.eraseA (σ := [rowR 61 b284 [Value.int .i64 z270.id, Value.int .i64 z270.source, Value.int .i64 z270.account, Value.int .i64 z270.made, Value.int .i64 z270.about, Value.int IntKind.u8 (z270.kind), Value.int .i64 z270.cents, Value.int .i64 z270.of_], itR r206 b207 c208 es209 xs210 none l232, rowR 92 b17 [(Value.map (some b5)), Value.map (some b9), Value.map (some b13)], mapO Ky3 (intE .i64) false b13 x223, mapO Ky3 (intE .i64) false b9 x94, rowR 92 b1 [Value.map none, Value.map none, Value.map none]]) 0))))).cells.at 5 rfl) Tryd.isAgg5 rfl ?_
       refine s_neq rfl rfl rfl ?_
       refine s_mv rfl rfl ?_
       refine Reg.gsplit (t := 109) rfl (fun hg299 => ?_) (fun hg299 => ?_)
       ·replace h294 := cdT hg299 h294
        refine Reg.pass rfl rfl rfl rfl ?_
        refine Reg.pass rfl rfl rfl rfl ?_
        refine s_pkT rfl rfl rfl ?_
        refine s_mv rfl rfl ?_
        refine Reg.pass rfl rfl rfl rfl ?_
        refine Reg.pass rfl rfl rfl rfl ?_
        refine Reg.pass rfl rfl rfl rfl ?_
        refine s_pkT rfl rfl rfl ?_
        refine s_mv rfl rfl ?_
        refine Reg.pass rfl rfl rfl rfl ?_
        refine Reg.pass rfl rfl rfl rfl ?_
        refine Reg.pass rfl rfl rfl rfl ?_
        refine Reg.pass rfl rfl rfl rfl ?_
        refine Reg.pass rfl rfl rfl rfl ?_
        refine Reg.pass rfl rfl rfl rfl ?_
        refine Reg.pass rfl rfl rfl rfl ?_
        refine Reg.pass rfl rfl rfl rfl ?_
        refine Reg.pass rfl rfl rfl rfl ?_
        refine s_pkT rfl rfl rfl ?_
        refine s_mv rfl rfl ?_
        refine Reg.pass rfl rfl rfl rfl ?_
        refine Reg.pass rfl rfl rfl rfl ?_
        refine Reg.pass rfl rfl rfl rfl ?_
        refine Reg.pass rfl rfl rfl rfl ?_
        refine s_pkT rfl rfl rfl ?_
        refine s_mv rfl rfl ?_
        refine Reg.pass rfl rfl rfl rfl ?_
        refine Reg.pass rfl rfl rfl rfl ?_
        refine Reg.pass rfl rfl rfl rfl ?_
        refine Reg.pass rfl rfl rfl rfl ?_
        refine s_pkT rfl rfl rfl ?_
        refine Reg.nilF [] RSub.nil (nodupB_spec rfl) ?_
        intro w300 e301
        refine Reg.nil ?_
        have hI302 := hI291.ext e301
        obtain rfl := Option.some.inj h294
        refine ⟨rfl, true, ⟨hI302, (Adv.of_ext e301), rfl⟩, Sub.cons rfl (Sub.cons rfl (Sub.cons rfl (Sub.cons rfl (Sub.cons rfl (Sub.cons rfl (Sub.nil _))))))⟩
       ·replace h294 := cdF hg299 h294
        refine Reg.take rfl rfl ?_
        refine s_mv rfl rfl ?_
        refine Reg.take rfl rfl ?_
        refine s_not rfl rfl ?_
        refine s_pkF rfl rfl rfl ?_
        refine s_mv rfl rfl ?_
        refine Reg.gsplit (t := 113) rfl (fun hg303 => ?_) (fun hg303 => ?_)
        ·replace h294 := cdT hg303 h294
         refine Reg.pass rfl rfl rfl rfl ?_
         refine Reg.pass rfl rfl rfl rfl ?_
         refine Reg.pass rfl rfl rfl rfl ?_
         refine s_pkT rfl rfl rfl ?_
         refine s_mv rfl rfl ?_
         refine Reg.pass rfl rfl rfl rfl ?_
         refine Reg.pass rfl rfl rfl rfl ?_
         refine Reg.pass rfl rfl rfl rfl ?_
         refine Reg.pass rfl rfl rfl rfl ?_
         refine Reg.pass rfl rfl rfl rfl ?_
         refine Reg.pass rfl rfl rfl rfl ?_
         refine Reg.pass rfl rfl rfl rfl ?_
         refine Reg.pass rfl rfl rfl rfl ?_
         refine Reg.pass rfl rfl rfl rfl ?_
         refine s_pkT rfl rfl rfl ?_
         refine s_mv rfl rfl ?_
         refine Reg.pass rfl rfl rfl rfl ?_
         refine Reg.pass rfl rfl rfl rfl ?_
         refine Reg.pass rfl rfl rfl rfl ?_
         refine Reg.pass rfl rfl rfl rfl ?_
         refine s_pkT rfl rfl rfl ?_
         refine s_mv rfl rfl ?_
         refine Reg.pass rfl rfl rfl rfl ?_
         refine Reg.pass rfl rfl rfl rfl ?_
         refine Reg.pass rfl rfl rfl rfl ?_
         refine Reg.pass rfl rfl rfl rfl ?_
         refine s_pkT rfl rfl rfl ?_
         refine Reg.nilF [] RSub.nil (nodupB_spec rfl) ?_
         intro w304 e305
         refine Reg.nil ?_
         have hI306 := hI291.ext e305
         obtain rfl := Option.some.inj h294
         refine ⟨rfl, true, ⟨hI306, (Adv.of_ext e305), rfl⟩, Sub.cons rfl (Sub.cons rfl (Sub.cons rfl (Sub.cons rfl (Sub.cons rfl (Sub.cons rfl (Sub.nil _))))))⟩
        ·replace h294 := cdF hg303 h294
         refine Reg.take rfl rfl ?_
         refine s_lda rfl hC292.cells Tryd.isAgg61 rfl Tryd.sizeOf61 rfl ?_
         refine Reg.take rfl rfl ?_
         obtain ⟨z307, hz308, h294⟩ := bnd h294
         refine s_callq rfl rfl Tryd.call43 rfl (fun w309 e310 => (C_account_fact (r := (Report.mk z270.id z270.source z270.account z270.made z270.about z270.kind z270.cents z270.of_)) (hI291.mlt.ext e310) r275 r276 r277 r278 r279 r280 r281 r282 hz308).mono (fun _ _ hq => ⟨hq.1, hq.2⟩)) ?_
         refine Reg.take rfl rfl ?_
         refine s_not rfl rfl ?_
         refine s_pkF rfl rfl rfl ?_
         refine s_mv rfl rfl ?_
         refine Reg.gsplit (t := 118) rfl (fun hg311 => ?_) (fun hg311 => ?_)
         ·replace h294 := cdT hg311 h294
          refine Reg.pass rfl rfl rfl rfl ?_
          refine Reg.pass rfl rfl rfl rfl ?_
          refine Reg.pass rfl rfl rfl rfl ?_
          refine Reg.pass rfl rfl rfl rfl ?_
          refine Reg.pass rfl rfl rfl rfl ?_
          refine Reg.pass rfl rfl rfl rfl ?_
          refine Reg.pass rfl rfl rfl rfl ?_
          refine Reg.pass rfl rfl rfl rfl ?_
          refine Reg.pass rfl rfl rfl rfl ?_
          refine s_pkT rfl rfl rfl ?_
          refine s_mv rfl rfl ?_
          refine Reg.pass rfl rfl rfl rfl ?_
          refine Reg.pass rfl rfl rfl rfl ?_
          refine Reg.pass rfl rfl rfl rfl ?_
          refine Reg.pass rfl rfl rfl rfl ?_
          refine s_pkT rfl rfl rfl ?_
          refine s_mv rfl rfl ?_
          refine Reg.pass rfl rfl rfl rfl ?_
          refine Reg.pass rfl rfl rfl rfl ?_
          refine Reg.pass rfl rfl rfl rfl ?_
          refine Reg.pass rfl rfl rfl rfl ?_
          refine s_pkT rfl rfl rfl ?_
          refine Reg.nilF [] RSub.nil (nodupB_spec rfl) ?_
          intro w312 e313
          refine Reg.nil ?_
          have hI314 := hI291.ext e313
          obtain rfl := Option.some.inj h294
          refine ⟨rfl, true, ⟨hI314, (Adv.of_ext e313), rfl⟩, Sub.cons rfl (Sub.cons rfl (Sub.cons rfl (Sub.cons rfl (Sub.cons rfl (Sub.cons rfl (Sub.nil _))))))⟩
         ·replace h294 := cdF hg311 h294
          refine Reg.take rfl rfl ?_
          refine s_fa rfl Tryd.underlying61 rfl Tryd.sizeOf5 rfl ?_
          refine Reg.take rfl rfl ?_
          refine s_ld rfl (hC292.cells.at 5 rfl) Tryd.isAgg5 rfl ?_
          refine Reg.take rfl rfl ?_
          obtain ⟨y315, hy315, h294⟩ := bnd h294
          refine s_iaG (k2 := .i64) (hG.adv hI291.adv) rfl rfl hy315 Tryd.underlying131 rfl Tryd.sizeOf3 rfl ?_
          intro hC316
          refine Reg.take rfl rfl ?_
          refine s_ld rfl (hC316.cells.at 0 rfl) Tryd.isAgg3 rfl ?_
          refine Reg.take rfl rfl ?_
          refine s_fa rfl Tryd.underlying61 rfl Tryd.sizeOf3 rfl ?_
          refine Reg.take rfl rfl ?_
          refine s_ld rfl ((hC269.adv ((Adv.of_ext e274).trans (x287.trans (x290.trans (Hp.eraseA (σ := [rowR 61 b284 [Value.int .i64 z270.id, Value.int .i64 z270.source, Value.int .i64 z270.account, Value.int .i64 z270.made, Value.int .i64 z270.about, Value.int IntKind.u8 (z270.kind), Value.int .i64 z270.cents, Value.int .i64 z270.of_], itR r206 b207 c208 es209 xs210 none l232, rowR 92 b17 [(Value.map (some b5)), Value.map (some b9), Value.map (some b13)], mapO Ky3 (intE .i64) false b13 x223, mapO Ky3 (intE .i64) false b9 x94, rowR 92 b1 [Value.map none, Value.map none, Value.map none]]) 0))))).cells.at 6 rfl) Tryd.isAgg3 rfl ?_
          refine Reg.take rfl rfl ?_
          refine Reg.rel (.p fun v w' => RdS (intE .i64) (mm [itR r206 b207 c208 es209 xs210 none l232, rowR 92 b17 [(Value.map (some b5)), Value.map (some b9), Value.map (some b13)], mapO Ky3 (intE .i64) false b13 x223, mapO Ky3 (intE .i64) false b9 x94, rowR 92 b1 [Value.map none, Value.map none, Value.map none]] M) w' v ([y231.2.cents] : List Int)) [] rfl rfl rfl RSub.nil rfl (nodupB_spec rfl) ?_ (fun v w1 w2 e h => h.adv (Adv.of_ext e)) ?_
          ·intro w317 e318; simp only [relOut]; refine s_bs (E := (intE .i64)) (M := mm [itR r206 b207 c208 es209 xs210 none l232, rowR 92 b17 [(Value.map (some b5)), Value.map (some b9), Value.map (some b13)], mapO Ky3 (intE .i64) false b13 x223, mapO Ky3 (intE .i64) false b9 x94, rowR 92 b1 [Value.map none, Value.map none, Value.map none]] M) (Bb := 0) (xs := ([y231.2.cents] : List Int)) sl36 rfl rfl (Cls.cons rfl Cls.nil) (Chs.cons ⟨rfl, r258⟩ Chs.nil) (hI291.mlt.ext e318) (Nat.zero_le _) rfl rfl ?_; intro a319 w320 x321 _ h322 _; exact Reg.nil ⟨rfl, x321, _, rfl, h322, trivial⟩
          refine Reg.take rfl rfl ?_
          obtain ⟨z326, hz326, h294⟩ := bnd h294
          refine Reg.relC (.bool z326) [(125, _)] rfl rfl (RSub.cons rfl rfl RSub.nil) rfl (nodupB_spec rfl) ?_ ?_
          ·intro w327 e328; simp only [relOut]; intro u323 k324 s325; refine s_call rfl Tryd.call35 rfl ?_; refine (C_account_in (hI291.mlt.ext e328) (by decide) (glob0_in hy315) k324 hz326).mono ?_; rintro _ w329 ⟨rfl, x330⟩; refine ⟨_, rfl, ?_⟩; exact Reg.nil ⟨rfl, x330, _, rfl, rfl, trivial⟩
          refine Reg.take rfl rfl ?_
          refine s_not rfl rfl ?_
          refine s_pkF rfl rfl rfl ?_
          refine s_mv rfl rfl ?_
          refine Reg.gsplit (t := 129) rfl (fun hg332 => ?_) (fun hg332 => ?_)
          ·replace h294 := cdT hg332 h294
           refine Reg.pass rfl rfl rfl rfl ?_
           refine Reg.pass rfl rfl rfl rfl ?_
           refine Reg.pass rfl rfl rfl rfl ?_
           refine Reg.pass rfl rfl rfl rfl ?_
           refine s_pkT rfl rfl rfl ?_
           refine s_mv rfl rfl ?_
           refine Reg.pass rfl rfl rfl rfl ?_
           refine Reg.pass rfl rfl rfl rfl ?_
           refine Reg.pass rfl rfl rfl rfl ?_
           refine Reg.pass rfl rfl rfl rfl ?_
           refine s_pkT rfl rfl rfl ?_
           refine Reg.nilF [] RSub.nil (nodupB_spec rfl) ?_
           intro w333 e334
           refine Reg.nil ?_
           have hI335 := hI291.ext e334
           obtain rfl := Option.some.inj h294
           refine ⟨rfl, true, ⟨hI335, (Adv.of_ext e334), rfl⟩, Sub.cons rfl (Sub.cons rfl (Sub.cons rfl (Sub.cons rfl (Sub.cons rfl (Sub.cons rfl (Sub.nil _))))))⟩
          ·replace h294 := cdF hg332 h294
           refine Reg.take rfl rfl ?_
           refine s_lda rfl (hI291.row 1 rfl).rd.cells Tryd.isAgg92 rfl Tryd.sizeOf92 rfl ?_
           refine Reg.take rfl rfl ?_
           refine s_fa rfl Tryd.underlying61 rfl Tryd.sizeOf3 rfl ?_
           refine Reg.take rfl rfl ?_
           refine s_ld rfl ((hC269.adv ((Adv.of_ext e274).trans (x287.trans (x290.trans (Hp.eraseA (σ := [rowR 61 b284 [Value.int .i64 z270.id, Value.int .i64 z270.source, Value.int .i64 z270.account, Value.int .i64 z270.made, Value.int .i64 z270.about, Value.int IntKind.u8 (z270.kind), Value.int .i64 z270.cents, Value.int .i64 z270.of_], itR r206 b207 c208 es209 xs210 none l232, rowR 92 b17 [(Value.map (some b5)), Value.map (some b9), Value.map (some b13)], mapO Ky3 (intE .i64) false b13 x223, mapO Ky3 (intE .i64) false b9 x94, rowR 92 b1 [Value.map none, Value.map none, Value.map none]]) 0))))).cells.at 0 rfl) Tryd.isAgg3 rfl ?_
           refine Reg.take rfl rfl ?_
           obtain ⟨z336, hz337, h294⟩ := bnd h294
           refine s_callq rfl rfl Tryd.call70 rfl (fun w338 e339 => (C_account_desk_away (d := (Desk.mk (Store.mk x26) x94 x223)) ((hI291.sel [0, 1, 4] rfl).mlt.ext e339) (((hf80.adv (x91.trans (hA97.trans (x215.trans (hA226.trans (x238.trans ((Hp.itOffA (σ := [itR r206 b207 c208 es209 xs210 (some y231) l232, rowR 92 b17 [(Value.map (some b5)), Value.map (some b9), Value.map (some b13)], mapO Ky3 (intE .i64) false b13 x223, mapO Ky3 (intE .i64) false b9 x94, rowR 92 b1 [Value.map none, Value.map none, Value.map none]]) (M := M) 0 rfl).trans (x264.trans (x267.trans ((Hp.eraseA (σ := [rowR 61 b261 [Value.int .i64 y231.2.id, Value.int .i64 y231.2.source, Value.int .i64 y231.2.account, Value.int .i64 y231.2.made, Value.int .i64 y231.2.about, Value.int IntKind.u8 (y231.2.kind), Value.int .i64 y231.2.cents, Value.int .i64 y231.2.of_], itR r206 b207 c208 es209 xs210 none l232, rowR 92 b17 [(Value.map (some b5)), Value.map (some b9), Value.map (some b13)], mapO Ky3 (intE .i64) false b13 x223, mapO Ky3 (intE .i64) false b9 x94, rowR 92 b1 [Value.map none, Value.map none, Value.map none]]) 0).trans ((Adv.of_ext e274).trans (x287.trans (x290.trans (Hp.eraseA (σ := [rowR 61 b284 [Value.int .i64 z270.id, Value.int .i64 z270.source, Value.int .i64 z270.account, Value.int .i64 z270.made, Value.int .i64 z270.about, Value.int IntKind.u8 (z270.kind), Value.int .i64 z270.cents, Value.int .i64 z270.of_], itR r206 b207 c208 es209 xs210 none l232, rowR 92 b17 [(Value.map (some b5)), Value.map (some b9), Value.map (some b13)], mapO Ky3 (intE .i64) false b13 x223, mapO Ky3 (intE .i64) false b9 x94, rowR 92 b1 [Value.map none, Value.map none, Value.map none]]) 0)))))))))))))).adv (Hp.selA (σ := [itR r206 b207 c208 es209 xs210 none l232, rowR 92 b17 [(Value.map (some b5)), Value.map (some b9), Value.map (some b13)], mapO Ky3 (intE .i64) false b13 x223, mapO Ky3 (intE .i64) false b9 x94, rowR 92 b1 [Value.map none, Value.map none, Value.map none]]) [0, 1, 4])).adv (Adv.of_ext e339)) ((hI291.lendF [0, 1, 4] 3 rfl rfl).adv (Adv.of_ext e339)) ((hI291.lendF [0, 1, 4] 2 rfl rfl).adv (Adv.of_ext e339)) r252 hz337).mono (fun _ _ hq => ⟨hq.1, hq.2⟩)) ?_
           refine s_pkF rfl rfl rfl ?_
           refine s_mv rfl rfl ?_
           refine Reg.gsplit (t := 135) rfl (fun hg340 => ?_) (fun hg340 => ?_)
           ·replace h294 := cdT hg340 h294
            refine Reg.pass rfl rfl rfl rfl ?_
            refine Reg.pass rfl rfl rfl rfl ?_
            refine Reg.pass rfl rfl rfl rfl ?_
            refine Reg.pass rfl rfl rfl rfl ?_
            refine s_pkT rfl rfl rfl ?_
            refine Reg.nilF [] RSub.nil (nodupB_spec rfl) ?_
            intro w341 e342
            refine Reg.nil ?_
            have hI343 := hI291.ext e342
            obtain rfl := Option.some.inj h294
            refine ⟨rfl, true, ⟨hI343, (Adv.of_ext e342), rfl⟩, Sub.cons rfl (Sub.cons rfl (Sub.cons rfl (Sub.cons rfl (Sub.cons rfl (Sub.cons rfl (Sub.nil _))))))⟩
           ·replace h294 := cdF hg340 h294
            refine Reg.take rfl rfl ?_
            refine s_lda rfl (hI291.row 1 rfl).rd.cells Tryd.isAgg92 rfl Tryd.sizeOf92 rfl ?_
            refine Reg.take rfl rfl ?_
            refine s_fa rfl Tryd.underlying61 rfl Tryd.sizeOf3 rfl ?_
            refine Reg.take rfl rfl ?_
            refine s_ld rfl (hC292.cells.at 0 rfl) Tryd.isAgg3 rfl ?_
            refine Reg.take rfl rfl ?_
            obtain ⟨z344, hz345, h294⟩ := bnd h294
            refine s_callq rfl rfl Tryd.call70 rfl (fun w346 e347 => (C_account_desk_away (d := (Desk.mk (Store.mk x26) x94 x223)) ((hI291.sel [0, 1, 4] rfl).mlt.ext e347) (((hf80.adv (x91.trans (hA97.trans (x215.trans (hA226.trans (x238.trans ((Hp.itOffA (σ := [itR r206 b207 c208 es209 xs210 (some y231) l232, rowR 92 b17 [(Value.map (some b5)), Value.map (some b9), Value.map (some b13)], mapO Ky3 (intE .i64) false b13 x223, mapO Ky3 (intE .i64) false b9 x94, rowR 92 b1 [Value.map none, Value.map none, Value.map none]]) (M := M) 0 rfl).trans (x264.trans (x267.trans ((Hp.eraseA (σ := [rowR 61 b261 [Value.int .i64 y231.2.id, Value.int .i64 y231.2.source, Value.int .i64 y231.2.account, Value.int .i64 y231.2.made, Value.int .i64 y231.2.about, Value.int IntKind.u8 (y231.2.kind), Value.int .i64 y231.2.cents, Value.int .i64 y231.2.of_], itR r206 b207 c208 es209 xs210 none l232, rowR 92 b17 [(Value.map (some b5)), Value.map (some b9), Value.map (some b13)], mapO Ky3 (intE .i64) false b13 x223, mapO Ky3 (intE .i64) false b9 x94, rowR 92 b1 [Value.map none, Value.map none, Value.map none]]) 0).trans ((Adv.of_ext e274).trans (x287.trans (x290.trans (Hp.eraseA (σ := [rowR 61 b284 [Value.int .i64 z270.id, Value.int .i64 z270.source, Value.int .i64 z270.account, Value.int .i64 z270.made, Value.int .i64 z270.about, Value.int IntKind.u8 (z270.kind), Value.int .i64 z270.cents, Value.int .i64 z270.of_], itR r206 b207 c208 es209 xs210 none l232, rowR 92 b17 [(Value.map (some b5)), Value.map (some b9), Value.map (some b13)], mapO Ky3 (intE .i64) false b13 x223, mapO Ky3 (intE .i64) false b9 x94, rowR 92 b1 [Value.map none, Value.map none, Value.map none]]) 0)))))))))))))).adv (Hp.selA (σ := [itR r206 b207 c208 es209 xs210 none l232, rowR 92 b17 [(Value.map (some b5)), Value.map (some b9), Value.map (some b13)], mapO Ky3 (intE .i64) false b13 x223, mapO Ky3 (intE .i64) false b9 x94, rowR 92 b1 [Value.map none, Value.map none, Value.map none]]) [0, 1, 4])).adv (Adv.of_ext e347)) ((hI291.lendF [0, 1, 4] 3 rfl rfl).adv (Adv.of_ext e347)) ((hI291.lendF [0, 1, 4] 2 rfl rfl).adv (Adv.of_ext e347)) r275 hz345).mono (fun _ _ hq => ⟨hq.1, hq.2⟩)) ?_
            refine s_pkF rfl rfl rfl ?_
            refine Reg.nilF [] RSub.nil (nodupB_spec rfl) ?_
            intro w348 e349
            refine Reg.nil ?_
            have hI350 := hI291.ext e349
            obtain rfl := Option.some.inj h294
            refine ⟨rfl, z344, ⟨hI350, (Adv.of_ext e349), rfl⟩, Sub.cons rfl (Sub.cons rfl (Sub.cons rfl (Sub.cons rfl (Sub.cons rfl (Sub.cons rfl (Sub.nil _))))))⟩
      ·skip
       rintro x295 w296 ⟨hI297, hA298, rfl⟩
       refine cw_cond rfl (fun hc351 => ?_) (fun hc351 => ?_)
       ·replace h242 := cdT hc351 h242
        refine cw_exit ?_
        refine exB_same ?_
        obtain rfl := Option.some.inj h242
        refine ⟨rfl, x223, ⟨hI297, ((Hp.itOffA (σ := [itR r206 b207 c208 es209 xs210 (some y231) l232, rowR 92 b17 [(Value.map (some b5)), Value.map (some b9), Value.map (some b13)], mapO Ky3 (intE .i64) false b13 x223, mapO Ky3 (intE .i64) false b9 x94, rowR 92 b1 [Value.map none, Value.map none, Value.map none]]) (M := M) 0 rfl).trans (x264.trans (x267.trans ((Hp.eraseA (σ := [rowR 61 b261 [Value.int .i64 y231.2.id, Value.int .i64 y231.2.source, Value.int .i64 y231.2.account, Value.int .i64 y231.2.made, Value.int .i64 y231.2.about, Value.int IntKind.u8 (y231.2.kind), Value.int .i64 y231.2.cents, Value.int .i64 y231.2.of_], itR r206 b207 c208 es209 xs210 none l232, rowR 92 b17 [(Value.map (some b5)), Value.map (some b9), Value.map (some b13)], mapO Ky3 (intE .i64) false b13 x223, mapO Ky3 (intE .i64) false b9 x94, rowR 92 b1 [Value.map none, Value.map none, Value.map none]]) 0).trans ((Adv.of_ext e274).trans (x287.trans (x290.trans ((Hp.eraseA (σ := [rowR 61 b284 [Value.int .i64 z270.id, Value.int .i64 z270.source, Value.int .i64 z270.account, Value.int .i64 z270.made, Value.int .i64 z270.about, Value.int IntKind.u8 (z270.kind), Value.int .i64 z270.cents, Value.int .i64 z270.of_], itR r206 b207 c208 es209 xs210 none l232, rowR 92 b17 [(Value.map (some b5)), Value.map (some b9), Value.map (some b13)], mapO Ky3 (intE .i64) false b13 x223, mapO Ky3 (intE .i64) false b9 x94, rowR 92 b1 [Value.map none, Value.map none, Value.map none]]) 0).trans hA298)))))))), rfl⟩, Sub.cons rfl (Sub.cons rfl (Sub.cons rfl (Sub.nil _)))⟩
       ·replace h242 := cdF hc351 h242
        refine cw_skip (cw_seq (cw_regF ?_))
        refine s_fa rfl Tryd.underlying92 rfl Tryd.sizeOf79 rfl ?_
        refine s_ld rfl ((hI297.row 1 rfl).rd.cells.at 2 rfl) Tryd.isAgg79 rfl ?_
        refine s_fa rfl Tryd.underlying61 rfl Tryd.sizeOf3 rfl ?_
        refine s_ld rfl ((hC292.adv hA298).cells.at 0 rfl) Tryd.isAgg3 rfl ?_
        obtain ⟨y352, hy352, h242⟩ := bnd h242
        refine y_lkF 2 (a := z270.id) (z0 := 0) hI297 rfl rfl rfl (show InK .i64 z270.id from r275) Tryd.underlying79 Tryd.zeroValue3 ⟨_, ⟨rfl, (by decide)⟩, .inr ⟨rfl, rfl⟩⟩ rfl ?_
        intro v353 hv354
        rw [Option.some.inj hy352] at hv354
        have hR355 := Vl.one1 hv354
        obtain ⟨r356', r356⟩ := hR355
        obtain rfl := one_inj r356'
        refine s_mv rfl rfl ?_
        refine s_xt rfl rfl rfl ?_
        refine s_xt rfl rfl rfl ?_
        refine s_as rfl rfl ?_
        refine s_as rfl rfl ?_
        refine Reg.nil ?_
        refine cw_seq (cw_regF ?_)
        refine s_fa rfl Tryd.underlying92 rfl Tryd.sizeOf90 rfl ?_
        refine s_fa rfl Tryd.underlying90 rfl Tryd.sizeOf88 rfl ?_
        refine s_ld rfl ((hI297.row 1 rfl).rd.cells.at 0 rfl) Tryd.isAgg88 rfl ?_
        refine s_mv rfl rfl ?_
        obtain ⟨y357, hy357, h242⟩ := bnd h242
        refine s_lkF1 (a := y352) (z0 := (Report.mk 0 0 0 0 0 0 0 0)) (hf80.adv (x91.trans (hA97.trans (x215.trans (hA226.trans (x238.trans ((Hp.itOffA (σ := [itR r206 b207 c208 es209 xs210 (some y231) l232, rowR 92 b17 [(Value.map (some b5)), Value.map (some b9), Value.map (some b13)], mapO Ky3 (intE .i64) false b13 x223, mapO Ky3 (intE .i64) false b9 x94, rowR 92 b1 [Value.map none, Value.map none, Value.map none]]) (M := M) 0 rfl).trans (x264.trans (x267.trans ((Hp.eraseA (σ := [rowR 61 b261 [Value.int .i64 y231.2.id, Value.int .i64 y231.2.source, Value.int .i64 y231.2.account, Value.int .i64 y231.2.made, Value.int .i64 y231.2.about, Value.int IntKind.u8 (y231.2.kind), Value.int .i64 y231.2.cents, Value.int .i64 y231.2.of_], itR r206 b207 c208 es209 xs210 none l232, rowR 92 b17 [(Value.map (some b5)), Value.map (some b9), Value.map (some b13)], mapO Ky3 (intE .i64) false b13 x223, mapO Ky3 (intE .i64) false b9 x94, rowR 92 b1 [Value.map none, Value.map none, Value.map none]]) 0).trans ((Adv.of_ext e274).trans (x287.trans (x290.trans ((Hp.eraseA (σ := [rowR 61 b284 [Value.int .i64 z270.id, Value.int .i64 z270.source, Value.int .i64 z270.account, Value.int .i64 z270.made, Value.int .i64 z270.about, Value.int IntKind.u8 (z270.kind), Value.int .i64 z270.cents, Value.int .i64 z270.of_], itR r206 b207 c208 es209 xs210 none l232, rowR 92 b17 [(Value.map (some b5)), Value.map (some b9), Value.map (some b13)], mapO Ky3 (intE .i64) false b13 x223, mapO Ky3 (intE .i64) false b9 x94, rowR 92 b1 [Value.map none, Value.map none, Value.map none]]) 0).trans hA298)))))))))))))) rfl rfl (show InK .i64 y352 from r356) Tryd.underlying88 Tryd.zeroValue61 ⟨_, ((ReportE_R (x := (Report.mk 0 0 0 0 0 0 0 0))).2 ⟨rfl, (by decide), (by decide), (by decide), (by decide), (by decide), (by decide), (by decide), (by decide)⟩), .inl ⟨rfl, rfl⟩⟩ rfl ?_
        intro v358 hv359
        rw [Option.some.inj hy357] at hv359
        obtain ⟨cs360, hR361, rfl⟩ := Vl.agg hv359
        obtain ⟨rfl, r362, r363, r364, r365, r366, r367, r368, r369⟩ := ReportE_R.1 hR361
        refine y_al hI297 Tryd.zeroValue61 rfl rfl ?_
        intro b370 w371 hI372 x373
        refine y_st 0 hI372 rfl rfl rfl rfl Tryd.sizeOf61 rfl rfl (one1 rfl (one1 rfl (one1 rfl (one1 rfl (one1 rfl (one1 rfl (one1 rfl (one1 rfl one0)))))))) ?_
        intro w374 hI375 x376
        have hC378 := hI375.freezeRow 0 rfl
        have hI377 := hI375.erase 0
        refine Reg.nil ?_
        obtain ⟨j379, h380, h242⟩ := bnd h242
        refine cw_sub (L := [(18, _), (19, _), (20, _), (4, _), (5, _), (15, _), (16, _), (94, _)]) (Sub.cons rfl (Sub.cons rfl (Sub.cons rfl (Sub.cons rfl (Sub.cons rfl (Sub.cons rfl (Sub.cons rfl (Sub.cons rfl (Sub.nil _))))))))) ?_
        refine cw_seqD 3 (ι := Bool) (fun x381 => [(169, Value.bool x381)]) (fun x381 => fun w382 => Hp w [] M [itR r206 b207 c208 es209 xs210 none l232, rowR 92 b17 [(Value.map (some b5)), Value.map (some b9), Value.map (some b13)], mapO Ky3 (intE .i64) false b13 x223, mapO Ky3 (intE .i64) false b9 x94, rowR 92 b1 [Value.map none, Value.map none, Value.map none]] w382 ∧ Adv (mm [itR r206 b207 c208 es209 xs210 none l232, rowR 92 b17 [(Value.map (some b5)), Value.map (some b9), Value.map (some b13)], mapO Ky3 (intE .i64) false b13 x223, mapO Ky3 (intE .i64) false b9 x94, rowR 92 b1 [Value.map none, Value.map none, Value.map none]] M) (mm [itR r206 b207 c208 es209 xs210 none l232, rowR 92 b17 [(Value.map (some b5)), Value.map (some b9), Value.map (some b13)], mapO Ky3 (intE .i64) false b13 x223, mapO Ky3 (intE .i64) false b9 x94, rowR 92 b1 [Value.map none, Value.map none, Value.map none]] M) w374 w382 ∧ x381 = j379) ?_ ?_
        ·skip
         refine cw_regD [0, 1, 2, 3, 4, 5, 6, 7, 8, 9, 10, 11, 12, 13, 14, 15] [] fol (by kernel_rfl) rfl rfl ?_
         refine s_mv rfl rfl ?_
         refine s_not rfl rfl ?_
         refine s_mv rfl rfl ?_
         refine Reg.gsplit (t := 156) rfl (fun hg385 => ?_) (fun hg385 => ?_)
         ·replace h380 := cdT hg385 h380
          refine Reg.pass rfl rfl rfl rfl ?_
          refine Reg.pass rfl rfl rfl rfl ?_
          refine Reg.pass rfl rfl rfl rfl ?_
          refine Reg.pass rfl rfl rfl rfl ?_
          refine Reg.pass rfl rfl rfl rfl ?_
          refine Reg.pass rfl rfl rfl rfl ?_
          refine Reg.pass rfl rfl rfl rfl ?_
          refine Reg.pass rfl rfl rfl rfl ?_
          refine Reg.pass rfl rfl rfl rfl ?_
          refine Reg.pass rfl rfl rfl rfl ?_
          refine Reg.pass rfl rfl rfl rfl ?_
          refine Reg.pass rfl rfl rfl rfl ?_
          refine s_pkT rfl rfl rfl ?_
          refine Reg.nilF [] RSub.nil (nodupB_spec rfl) ?_
          intro w386 e387
          refine Reg.nil ?_
          have hI388 := hI377.ext e387
          obtain rfl := Option.some.inj h380
          refine ⟨rfl, true, ⟨hI388, (Adv.of_ext e387), rfl⟩, Sub.cons rfl (Sub.cons rfl (Sub.cons rfl (Sub.cons rfl (Sub.cons rfl (Sub.cons rfl (Sub.nil _))))))⟩
         ·replace h380 := cdF hg385 h380
          refine Reg.take rfl rfl ?_
          refine s_fa rfl Tryd.underlying61 rfl Tryd.sizeOf3 rfl ?_
          refine Reg.take rfl rfl ?_
          refine s_ld rfl (hC378.cells.at 3 rfl) Tryd.isAgg3 rfl ?_
          refine Reg.take rfl rfl ?_
          refine s_fa rfl Tryd.underlying61 rfl Tryd.sizeOf3 rfl ?_
          refine Reg.take rfl rfl ?_
          refine s_ld rfl ((hC269.adv ((Adv.of_ext e274).trans (x287.trans (x290.trans ((Hp.eraseA (σ := [rowR 61 b284 [Value.int .i64 z270.id, Value.int .i64 z270.source, Value.int .i64 z270.account, Value.int .i64 z270.made, Value.int .i64 z270.about, Value.int IntKind.u8 (z270.kind), Value.int .i64 z270.cents, Value.int .i64 z270.of_], itR r206 b207 c208 es209 xs210 none l232, rowR 92 b17 [(Value.map (some b5)), Value.map (some b9), Value.map (some b13)], mapO Ky3 (intE .i64) false b13 x223, mapO Ky3 (intE .i64) false b9 x94, rowR 92 b1 [Value.map none, Value.map none, Value.map none]]) 0).trans (hA298.trans (x373.trans (x376.trans (Hp.eraseA (σ := [rowR 61 b370 [Value.int .i64 y357.id, Value.int .i64 y357.source, Value.int .i64 y357.account, Value.int .i64 y357.made, Value.int .i64 y357.about, Value.int IntKind.u8 (y357.kind), Value.int .i64 y357.cents, Value.int .i64 y357.of_], itR r206 b207 c208 es209 xs210 none l232, rowR 92 b17 [(Value.map (some b5)), Value.map (some b9), Value.map (some b13)], mapO Ky3 (intE .i64) false b13 x223, mapO Ky3 (intE .i64) false b9 x94, rowR 92 b1 [Value.map none, Value.map none, Value.map none]]) 0))))))))).cells.at 3 rfl) Tryd.isAgg3 rfl ?_
          refine Reg.take rfl rfl ?_
          obtain ⟨z389, hz390, h380⟩ := bnd h380
          refine s_callq rfl rfl Tryd.call72 rfl (fun w391 e392 => (C_cmp_Compare_72 (hI377.mlt.ext e392) r365 r255 hz390).mono (fun _ _ hq => ⟨hq.1, hq.2.2⟩)) ?_
          have r393 := Calls.fact (C_cmp_Compare_72 hI377.mlt r365 r255 hz390) (fun _ _ hq => hq.2.1)
          refine Reg.take rfl rfl ?_
          refine s_mv rfl rfl ?_
          refine Reg.take rfl rfl ?_
          refine s_fa rfl Tryd.underlying61 rfl Tryd.sizeOf3 rfl ?_
          refine Reg.take rfl rfl ?_
          refine s_ld rfl ((hC269.adv ((Adv.of_ext e274).trans (x287.trans (x290.trans ((Hp.eraseA (σ := [rowR 61 b284 [Value.int .i64 z270.id, Value.int .i64 z270.source, Value.int .i64 z270.account, Value.int .i64 z270.made, Value.int .i64 z270.about, Value.int IntKind.u8 (z270.kind), Value.int .i64 z270.cents, Value.int .i64 z270.of_], itR r206 b207 c208 es209 xs210 none l232, rowR 92 b17 [(Value.map (some b5)), Value.map (some b9), Value.map (some b13)], mapO Ky3 (intE .i64) false b13 x223, mapO Ky3 (intE .i64) false b9 x94, rowR 92 b1 [Value.map none, Value.map none, Value.map none]]) 0).trans (hA298.trans (x373.trans (x376.trans (Hp.eraseA (σ := [rowR 61 b370 [Value.int .i64 y357.id, Value.int .i64 y357.source, Value.int .i64 y357.account, Value.int .i64 y357.made, Value.int .i64 y357.about, Value.int IntKind.u8 (y357.kind), Value.int .i64 y357.cents, Value.int .i64 y357.of_], itR r206 b207 c208 es209 xs210 none l232, rowR 92 b17 [(Value.map (some b5)), Value.map (some b9), Value.map (some b13)], mapO Ky3 (intE .i64) false b13 x223, mapO Ky3 (intE .i64) false b9 x94, rowR 92 b1 [Value.map none, Value.map none, Value.map none]]) 0))))))))).cells.at 0 rfl) Tryd.isAgg3 rfl ?_
          refine Reg.take rfl rfl ?_
          obtain ⟨z394, hz395, h380⟩ := bnd h380
          refine s_callq rfl rfl Tryd.call72 rfl (fun w396 e397 => (C_cmp_Compare_72 (hI377.mlt.ext e397) r356 r252 hz395).mono (fun _ _ hq => ⟨hq.1, hq.2.2⟩)) ?_
          have r398 := Calls.fact (C_cmp_Compare_72 hI377.mlt r356 r252 hz395) (fun _ _ hq => hq.2.1)
          refine Reg.take rfl rfl ?_
          refine Reg.rel (.p fun v w' => RdS (intE .i64) (mm [itR r206 b207 c208 es209 xs210 none l232, rowR 92 b17 [(Value.map (some b5)), Value.map (some b9), Value.map (some b13)], mapO Ky3 (intE .i64) false b13 x223, mapO Ky3 (intE .i64) false b9 x94, rowR 92 b1 [Value.map none, Value.map none, Value.map none]] M) w' v ([z389, z394] : List Int)) [] rfl rfl rfl RSub.nil rfl (nodupB_spec rfl) ?_ (fun v w1 w2 e h => h.adv (Adv.of_ext e)) ?_
          ·intro w399 e400; simp only [relOut]; refine s_bs (E := (intE .i64)) (M := mm [itR r206 b207 c208 es209 xs210 none l232, rowR 92 b17 [(Value.map (some b5)), Value.map (some b9), Value.map (some b13)], mapO Ky3 (intE .i64) false b13 x223, mapO Ky3 (intE .i64) false b9 x94, rowR 92 b1 [Value.map none, Value.map none, Value.map none]] M) (Bb := 0) (xs := ([z389, z394] : List Int)) sl36 rfl rfl (Cls.cons rfl (Cls.cons rfl Cls.nil)) (Chs.cons ⟨rfl, r393⟩ (Chs.cons ⟨rfl, r398⟩ Chs.nil)) (hI377.mlt.ext e400) (Nat.zero_le _) rfl rfl ?_; intro a401 w402 x403 _ h404 _; exact Reg.nil ⟨rfl, x403, _, rfl, h404, trivial⟩
          refine Reg.take rfl rfl ?_
          obtain ⟨z408, hz408, h380⟩ := bnd h380
          obtain ⟨n414, hn414, h380⟩ := bnd h380
          have kz408 : InK .i64 z408 := (chk_out hn414).1 ▸ (chk_out hn414).2
          refine Reg.relC (.int .i64 z408) [(166, _)] rfl rfl (RSub.cons rfl rfl RSub.nil) rfl (nodupB_spec rfl) ?_ ?_
          ·intro w409 e410; simp only [relOut]; intro u405 k406 s407; refine s_call rfl Tryd.call71 rfl ?_; refine (C_cmp_Or_71 (hI377.mlt.ext e410) k406 hz408).mono ?_; rintro _ w411 ⟨rfl, _, x412⟩; refine ⟨_, rfl, ?_⟩; exact Reg.nil ⟨rfl, x412, _, rfl, rfl, trivial⟩
          refine Reg.take rfl rfl ?_
          refine s_lss rfl rfl rfl ?_
          refine s_pkF rfl rfl rfl ?_
          refine Reg.nilF [] RSub.nil (nodupB_spec rfl) ?_
          intro w415 e416
          refine Reg.nil ?_
          have hI417 := hI377.ext e416
          obtain rfl := Option.some.inj h380
          refine ⟨rfl, decide (z408 < 0), ⟨hI417, (Adv.of_ext e416), rfl⟩, Sub.cons rfl (Sub.cons rfl (Sub.cons rfl (Sub.cons rfl (Sub.cons rfl (Sub.cons rfl (Sub.nil _))))))⟩
        ·skip
         rintro x381 w382 ⟨hI383, hA384, rfl⟩
         obtain ⟨j418, h419, h242⟩ := bnd h242
         refine cw_sub (L := [(15, _), (16, _), (169, _), (4, _), (5, _), (94, _)]) (Sub.cons rfl (Sub.cons rfl (Sub.cons rfl (Sub.cons rfl (Sub.cons rfl (Sub.cons rfl (Sub.nil _))))))) ?_
         refine cw_unitD 3 (ι := (FMap Int Int)) (fun x420 => []) (fun x420 => fun w421 => Hp w [] M [itR r206 b207 c208 es209 xs210 none l232, rowR 92 b17 [(Value.map (some b5)), Value.map (some b9), Value.map (some b13)], mapO Ky3 (intE .i64) false b13 x420, mapO Ky3 (intE .i64) false b9 x94, rowR 92 b1 [Value.map none, Value.map none, Value.map none]] w421 ∧ Adv (mm [itR r206 b207 c208 es209 xs210 none l232, rowR 92 b17 [(Value.map (some b5)), Value.map (some b9), Value.map (some b13)], mapO Ky3 (intE .i64) false b13 x223, mapO Ky3 (intE .i64) false b9 x94, rowR 92 b1 [Value.map none, Value.map none, Value.map none]] M) (mm [itR r206 b207 c208 es209 xs210 none l232, rowR 92 b17 [(Value.map (some b5)), Value.map (some b9), Value.map (some b13)], mapO Ky3 (intE .i64) false b13 x420, mapO Ky3 (intE .i64) false b9 x94, rowR 92 b1 [Value.map none, Value.map none, Value.map none]] M) w382 w421 ∧ x420 = j418) ?_ ?_
         ·skip
          refine cw_cond rfl (fun hc424 => ?_) (fun hc424 => ?_)
          ·replace h419 := cdT hc424 h419
           refine cw_regF ?_
           refine s_fa rfl Tryd.underlying92 rfl Tryd.sizeOf79 rfl ?_
           refine s_ld rfl ((hI383.row 1 rfl).rd.cells.at 2 rfl) Tryd.isAgg79 rfl ?_
           refine s_fa rfl Tryd.underlying61 rfl Tryd.sizeOf3 rfl ?_
           refine s_ld rfl ((hC292.adv (hA298.trans (x373.trans (x376.trans ((Hp.eraseA (σ := [rowR 61 b370 [Value.int .i64 y357.id, Value.int .i64 y357.source, Value.int .i64 y357.account, Value.int .i64 y357.made, Value.int .i64 y357.about, Value.int IntKind.u8 (y357.kind), Value.int .i64 y357.cents, Value.int .i64 y357.of_], itR r206 b207 c208 es209 xs210 none l232, rowR 92 b17 [(Value.map (some b5)), Value.map (some b9), Value.map (some b13)], mapO Ky3 (intE .i64) false b13 x223, mapO Ky3 (intE .i64) false b9 x94, rowR 92 b1 [Value.map none, Value.map none, Value.map none]]) 0).trans hA384))))).cells.at 0 rfl) Tryd.isAgg3 rfl ?_
           refine s_fa rfl Tryd.underlying61 rfl Tryd.sizeOf3 rfl ?_
           refine s_ld rfl ((hC269.adv ((Adv.of_ext e274).trans (x287.trans (x290.trans ((Hp.eraseA (σ := [rowR 61 b284 [Value.int .i64 z270.id, Value.int .i64 z270.source, Value.int .i64 z270.account, Value.int .i64 z270.made, Value.int .i64 z270.about, Value.int IntKind.u8 (z270.kind), Value.int .i64 z270.cents, Value.int .i64 z270.of_], itR r206 b207 c208 es209 xs210 none l232, rowR 92 b17 [(Value.map (some b5)), Value.map (some b9), Value.map (some b13)], mapO Ky3 (intE .i64) false b13 x223, mapO Ky3 (intE .i64) false b9 x94, rowR 92 b1 [Value.map none, Value.map none, Value.map none]]) 0).trans (hA298.trans (x373.trans (x376.trans ((Hp.eraseA (σ := [rowR 61 b370 [Value.int .i64 y357.id, Value.int .i64 y357.source, Value.int .i64 y357.account, Value.int .i64 y357.made, Value.int .i64 y357.about, Value.int IntKind.u8 (y357.kind), Value.int .i64 y357.cents, Value.int .i64 y357.of_], itR r206 b207 c208 es209 xs210 none l232, rowR 92 b17 [(Value.map (some b5)), Value.map (some b9), Value.map (some b13)], mapO Ky3 (intE .i64) false b13 x223, mapO Ky3 (intE .i64) false b9 x94, rowR 92 b1 [Value.map none, Value.map none, Value.map none]]) 0).trans hA384))))))))).cells.at 0 rfl) Tryd.isAgg3 rfl ?_
           refine y_upF 2 (a := z270.id) (z := y231.2.id) hI383 rfl rfl rfl (show InK .i64 z270.id from r275) rfl ⟨_, ⟨rfl, r252⟩, .inr ⟨rfl, rfl⟩⟩ Tryd.underlying79 ?_
           intro w425 hI426 x427
           refine Reg.nil ?_
           obtain rfl := Option.some.inj h419
           refine ⟨rfl, (fput x223 z270.id y231.2.id), ⟨hI426, x427, rfl⟩, Sub.cons rfl (Sub.cons rfl (Sub.cons rfl (Sub.nil _)))⟩
          ·replace h419 := cdF hc424 h419
           refine cw_skip ?_
           obtain rfl := Option.some.inj h419
           refine ⟨rfl, x223, ⟨hI383, (Adv.refl _ _), rfl⟩, Sub.cons rfl (Sub.cons rfl (Sub.cons rfl (Sub.nil _)))⟩
         ·skip
          rintro x420 w421 ⟨hI422, hA423, rfl⟩
          obtain rfl := Option.some.inj h242
          refine ⟨rfl, x420, ⟨hI422, ((Hp.itOffA (σ := [itR r206 b207 c208 es209 xs210 (some y231) l232, rowR 92 b17 [(Value.map (some b5)), Value.map (some b9), Value.map (some b13)], mapO Ky3 (intE .i64) false b13 x223, mapO Ky3 (intE .i64) false b9 x94, rowR 92 b1 [Value.map none, Value.map none, Value.map none]]) (M := M) 0 rfl).trans (x264.trans (x267.trans ((Hp.eraseA (σ := [rowR 61 b261 [Value.int .i64 y231.2.id, Value.int .i64 y231.2.source, Value.int .i64 y231.2.account, Value.int .i64 y231.2.made, Value.int .i64 y231.2.about, Value.int IntKind.u8 (y231.2.kind), Value.int .i64 y231.2.cents, Value.int .i64 y231.2.of_], itR r206 b207 c208 es209 xs210 none l232, rowR 92 b17 [(Value.map (some b5)), Value.map (some b9), Value.map (some b13)], mapO Ky3 (intE .i64) false b13 x223, mapO Ky3 (intE .i64) false b9 x94, rowR 92 b1 [Value.map none, Value.map none, Value.map none]]) 0).trans ((Adv.of_ext e274).trans (x287.trans (x290.trans ((Hp.eraseA (σ := [rowR 61 b284 [Value.int .i64 z270.id, Value.int .i64 z270.source, Value.int .i64 z270.account, Value.int .i64 z270.made, Value.int .i64 z270.about, Value.int IntKind.u8 (z270.kind), Value.int .i64 z270.cents, Value.int .i64 z270.of_], itR r206 b207 c208 es209 xs210 none l232, rowR 92 b17 [(Value.map (some b5)), Value.map (some b9), Value.map (some b13)], mapO Ky3 (intE .i64) false b13 x223, mapO Ky3 (intE .i64) false b9 x94, rowR 92 b1 [Value.map none, Value.map none, Value.map none]]) 0).trans (hA298.trans (x373.trans (x376.trans ((Hp.eraseA (σ := [rowR 61 b370 [Value.int .i64 y357.id, Value.int .i64 y357.source, Value.int .i64 y357.account, Value.int .i64 y357.made, Value.int .i64 y357.about, Value.int IntKind.u8 (y357.kind), Value.int .i64 y357.cents, Value.int .i64 y357.of_], itR r206 b207 c208 es209 xs210 none l232, rowR 92 b17 [(Value.map (some b5)), Value.map (some b9), Value.map (some b13)], mapO Ky3 (intE .i64) false b13 x223, mapO Ky3 (intE .i64) false b9 x94, rowR 92 b1 [Value.map none, Value.map none, Value.map none]]) 0).trans (hA384.trans hA423))))))))))))), rfl⟩, Sub.cons rfl (Sub.cons rfl (Sub.cons rfl (Sub.nil _)))⟩
     ·skip
      rintro x243 w244 ⟨hI245, hA246, rfl⟩
      obtain rfl := Option.some.inj hB239
      refine ⟨rfl, x243, y231, l232, ⟨hp236, zhB239, ⟨hI245, (hA226.trans (x238.trans hA246))⟩⟩, Sub.cons rfl (Sub.cons rfl (Sub.cons rfl (Sub.nil _)))⟩
   ·skip
    rintro x218 w219 ⟨hI220, hA221, rfl⟩
    refine cw_seq (cw_regF ?_)
    refine s_lda rfl (hI220.row 0 rfl).rd.cells Tryd.isAgg92 rfl Tryd.sizeOf92 rfl ?_
    refine y_st 3 hI220 rfl rfl rfl rfl Tryd.sizeOf92 rfl rfl (one1 (RdF.oneC hf80) (one1 rfl (one1 rfl one0))) ?_
    intro w428 hI429 x430
    refine Reg.nil ?_
    refine cw_ret ?_
    obtain rfl := Option.some.inj h
    have hf431 := hI429.freezeM 2 rfl
    have hI432 := hI429.erase 2
    have hf433 := hI432.freezeM 1 rfl
    have hI434 := hI432.erase 1
    refine fin_any Tryd.results37 (AllRs.cons (RsOk.agg rfl (hI434.row 1 rfl).rd.cells Tryd.isAgg92 rfl Tryd.sizeOf92) (AllRs.nil)) rfl ?_
    exact ⟨_, _, _, rfl, ((hf80.adv (x91.trans (hA97.trans (x215.trans (hA221.trans (x430.trans ((Hp.eraseA (σ := [rowR 92 b17 [(Value.map (some b5)), Value.map (some b9), Value.map (some b13)], mapO Ky3 (intE .i64) false b13 x218, mapO Ky3 (intE .i64) false b9 x94, rowR 92 b1 [(Value.map (some b5)), Value.map (some b9), Value.map (some b13)]]) 2).trans (Hp.eraseA (σ := [rowR 92 b17 [(Value.map (some b5)), (Value.map (some b9)), Value.map (some b13)], mapO Ky3 (intE .i64) false b13 x218, rowR 92 b1 [(Value.map (some b5)), (Value.map (some b9)), Value.map (some b13)]]) 1)))))))).adv (Hp.baseA (σ := [rowR 92 b17 [(Value.map (some b5)), (Value.map (some b9)), (Value.map (some b13))], rowR 92 b1 [(Value.map (some b5)), (Value.map (some b9)), (Value.map (some b13))]]))), ((hf431.adv (Hp.eraseA (σ := [rowR 92 b17 [(Value.map (some b5)), (Value.map (some b9)), Value.map (some b13)], mapO Ky3 (intE .i64) false b13 x218, rowR 92 b1 [(Value.map (some b5)), (Value.map (some b9)), Value.map (some b13)]]) 1)).adv (Hp.baseA (σ := [rowR 92 b17 [(Value.map (some b5)), (Value.map (some b9)), (Value.map (some b13))], rowR 92 b1 [(Value.map (some b5)), (Value.map (some b9)), (Value.map (some b13))]]))), (hf433.adv (Hp.baseA (σ := [rowR 92 b17 [(Value.map (some b5)), (Value.map (some b9)), (Value.map (some b13))], rowR 92 b1 [(Value.map (some b5)), (Value.map (some b9)), (Value.map (some b13))]]))), hI434.kp⟩
end Go.Proofs.YtepjkmoipjeghaaDoor
set_option maxRecDepth 20000
set_option maxHeartbeats 4000000
namespace Go.Proofs.YtepjkmoipjeghaaDoor
open Go Go.Sx Go.RowKit
variable [Trk]
noncomputable def P.account_Fate (l : (List Report)) (n : Int) (known : Int) : Option (Int × Int × Int) :=
 Option.bind (P.account_Check l) fun z1 => cond (!decide (z1 = 0)) (some (0, 0, z1)) (Option.bind (P.account_in 0 100000 ([known] : List Int)) fun z12 => cond (!z12) (some (0, 0, 2)) (Option.bind (P.account_open l known) fun z18 => Option.bind (some ((z18.store.reports n).getD (Report.mk 0 0 0 0 0 0 0 0))) fun y38 => cond (!((z18.store.reports n).isSome)) (some (0, 0, 6)) (Option.bind (some ((z18.gone n).getD 0)) fun y61 => Option.bind (some ((z18.fixed n).getD 0)) fun y66 => Option.bind (P.account_store_aim (Store.mk z18.store.reports) (Report.mk y38.id y38.source y38.account y38.made y38.about y38.kind y38.cents y38.of_)) fun (z71, z72) => Option.bind (cond (decide (y38.kind = 9)) (cond z72 (some (!decide (z71.kind = 9))) (some false)) (some false)) fun x96 => Option.bind (Option.bind (cond (decide (y38.kind = 8)) (Option.bind (some ((z18.fixed y38.of_).getD 0)) fun y98 => Option.bind (cond ((z18.fixed y38.of_).isSome) (some (decide (y98 = n))) (some false)) fun x104 => some x104) (some x96)) fun x105 => some x105) fun x106 => cond ((z18.gone n).isSome) (some (2, y61, 0)) (cond x106 (some (4, (-1), 0)) (Option.bind (P.account_fact (Report.mk y38.id y38.source y38.account y38.made y38.about y38.kind y38.cents y38.of_)) fun z109 => cond (!z109) (some (3, (-1), 0)) (cond ((z18.fixed n).isSome) (some (1, y66, 0)) (some (0, (-1), 0))))))))
theorem C_account_Fate {M : List Nat} {w : World} (hM : MLt M w) (hG : RdC M w 0 0 (glob0.map (Value.int .i64))) {l : (List Report)} {v_l_0 : Value} (f_l_0 : RdS ReportE M w v_l_0 l) {n : Int} (f_n_0 : InK .i64 n) {known : Int} (f_known_0 : InK .i64 known) {r0 : Int} {r1 : Int} {r2 : Int} (h : P.account_Fate l n known = some (r0, r1, r2)) :
  Calls Tryd.prog 15 (List.toArray [v_l_0, Value.int .i64 n, Value.int .i64 known]) w fun e w' => e = .returned (Value.tuple (List.toArray [Value.int IntKind.u8 r0, Value.int .i64 r1, Value.int .i64 r2])) ∧ InK IntKind.u8 r0 ∧ InK .i64 r1 ∧ InK .i64 r2 ∧ Ext w w' := by
 have hI := Hp.start (Mu := []) hM
 refine calls_cw Tryd.func15 rfl Tryd.ntmps15 rfl ?_
 refine cw_seq (cw_regF ?_)
 refine s_as rfl rfl ?_
 refine s_as rfl rfl ?_
 refine s_as rfl rfl ?_
 refine Reg.nil ?_
 refine cw_seq (cw_seq (cw_regF ?_))
 refine s_mv rfl rfl ?_
 obtain ⟨z1, hz2, h⟩ := bnd h
 refine s_call rfl Tryd.call17 rfl ?_
 refine (C_account_Check hI.mlt hG f_l_0 hz2).mono ?_
 rintro _ w3 ⟨rfl, r5, e4⟩
 refine ⟨_, rfl, ?_⟩
 have hI6 := hI.ext e4
 refine s_as rfl rfl ?_
 refine Reg.nil ?_
 refine cw_seq (cw_regF ?_)
 refine s_mv rfl rfl ?_
 refine s_neq rfl rfl rfl ?_
 refine Reg.nil ?_
 refine cw_cond rfl (fun hc7 => ?_) (fun hc7 => ?_)
 ·replace h := cdT hc7 h
  refine cw_seq (cw_regF ?_)
  refine s_mv rfl rfl ?_
  refine s_as rfl rfl ?_
  refine s_as rfl rfl ?_
  refine s_as rfl rfl ?_
  refine Reg.nil ?_
  refine cw_ret ?_
  obtain ⟨rfl, rfl, rfl⟩ := inj3 h
  refine fin3 Tryd.results15 rfl rfl rfl ?_
  exact ⟨rfl, (by decide), (by decide), r5, hI6.kp⟩
 ·replace h := cdF hc7 h
  refine cw_skip (cw_seq (cw_seq (cw_regF ?_)))
  refine s_mv rfl rfl ?_
  refine y_bs (E := (intE .i64)) (xs := [known]) sl36 hI6 rfl rfl (Cls.cons rfl Cls.nil) (Chs.cons ⟨rfl, f_known_0⟩ Chs.nil) rfl rfl ?_
  intro v8 w9 hI10 x11
  obtain ⟨z12, hz13, h⟩ := bnd h
  refine s_call rfl Tryd.call35 rfl ?_
  refine (C_account_in (hI10.sel [] rfl).mlt (by decide) (by decide) (hI10.lendRd [] 0 rfl rfl) hz13).mono ?_
  rintro _ w14 ⟨rfl, e15⟩
  refine ⟨_, rfl, ?_⟩
  have hI16 := hI10.ext e15
  refine s_not rfl rfl ?_
  refine Reg.nil ?_
  refine cw_cond rfl (fun hc17 => ?_) (fun hc17 => ?_)
  ·replace h := cdT hc17 h
   refine cw_seq (cw_regF ?_)
   refine s_as rfl rfl ?_
   refine s_as rfl rfl ?_
   refine s_as rfl rfl ?_
   refine Reg.nil ?_
   refine cw_ret ?_
   obtain ⟨rfl, rfl, rfl⟩ := inj3 h
   refine fin3 Tryd.results15 rfl rfl rfl ?_
   exact ⟨rfl, (by decide), (by decide), (by decide), hI16.kp⟩
  ·replace h := cdF hc17 h
   refine cw_skip (cw_seq (cw_regF ?_))
   refine s_mv rfl rfl ?_
   refine s_mv rfl rfl ?_
   obtain ⟨z18, hz19, h⟩ := bnd h
   refine s_call rfl Tryd.call37 rfl ?_
   refine (C_account_open hI16.mlt (hG.adv hI16.adv) (f_l_0.adv hI16.adv) f_known_0 hz19).mono ?_
   rintro _ w20 ⟨v22, v24, v26, rfl, hf23, hf25, hf27, e21⟩
   refine ⟨_, rfl, ?_⟩
   have hI28 := hI16.ext e21
   refine y_al hI28 Tryd.zeroValue92 rfl rfl ?_
   intro b29 w30 hI31 x32
   refine y_st 0 hI31 rfl rfl rfl rfl Tryd.sizeOf92 rfl rfl (one1 (RdF.oneC hf23) (one1 (RdF.oneC hf25) (one1 (RdF.oneC hf27) one0))) ?_
   intro w33 hI34 x35
   have hC37 := hI34.freezeRow 0 rfl
   have hI36 := hI34.erase 0
   refine Reg.nil ?_
   refine cw_seq (cw_regF ?_)
   refine s_fa rfl Tryd.underlying92 rfl Tryd.sizeOf90 rfl ?_
   refine s_fa rfl Tryd.underlying90 rfl Tryd.sizeOf88 rfl ?_
   refine s_ld rfl (hC37.cells.at 0 rfl) Tryd.isAgg88 rfl ?_
   refine s_mv rfl rfl ?_
   obtain ⟨y38, hy38, h⟩ := bnd h
   refine s_lkF (a := n) (z0 := (Report.mk 0 0 0 0 0 0 0 0)) (hf23.adv (x32.trans (x35.trans (Hp.eraseA (σ := [rowR 92 b29 [v22, v24, v26], ownR [] (intE .i64) 3 v8 ([known] : List Int)]) 0)))) rfl rfl (show InK .i64 n from f_n_0) Tryd.underlying88 Tryd.zeroValue61 ⟨_, ((ReportE_R (x := (Report.mk 0 0 0 0 0 0 0 0))).2 ⟨rfl, (by decide), (by decide), (by decide), (by decide), (by decide), (by decide), (by decide), (by decide)⟩), .inl ⟨rfl, rfl⟩⟩ rfl ?_
   intro v39 hv40
   rw [Option.some.inj hy38] at hv40
   obtain ⟨cs41, hR42, rfl⟩ := Vl.agg hv40
   obtain ⟨rfl, r43, r44, r45, r46, r47, r48, r49, r50⟩ := ReportE_R.1 hR42
   refine s_mv rfl rfl ?_
   refine s_xt rfl rfl rfl ?_
   refine s_xt rfl rfl rfl ?_
   refine y_al hI36 Tryd.zeroValue61 rfl rfl ?_
   intro b51 w52 hI53 x54
   refine y_st 0 hI53 rfl rfl rfl rfl Tryd.sizeOf61 rfl rfl (one1 rfl (one1 rfl (one1 rfl (one1 rfl (one1 rfl (one1 rfl (one1 rfl (one1 rfl one0)))))))) ?_
   intro w55 hI56 x57
   have hC59 := hI56.freezeRow 0 rfl
   have hI58 := hI56.erase 0
   refine s_as rfl rfl ?_
   refine Reg.nil ?_
   refine cw_seq (cw_seq (cw_regF ?_))
   refine s_mv rfl rfl ?_
   refine s_not rfl rfl ?_
   refine Reg.nil ?_
   refine cw_cond rfl (fun hc60 => ?_) (fun hc60 => ?_)
   ·replace h := cdT hc60 h
    refine cw_seq (cw_regF ?_)
    refine s_as rfl rfl ?_
    refine s_as rfl rfl ?_
    refine s_as rfl rfl ?_
    refine Reg.nil ?_
    refine cw_ret ?_
    obtain ⟨rfl, rfl, rfl⟩ := inj3 h
    refine fin3 Tryd.results15 rfl rfl rfl ?_
    exact ⟨rfl, (by decide), (by decide), (by decide), hI58.kp⟩
   ·replace h := cdF hc60 h
    refine cw_skip (cw_seq (cw_regF ?_))
    refine s_fa rfl Tryd.underlying92 rfl Tryd.sizeOf79 rfl ?_
    refine s_ld rfl ((hC37.adv (x54.trans (x57.trans (Hp.eraseA (σ := [rowR 61 b51 [Value.int .i64 y38.id, Value.int .i64 y38.source, Value.int .i64 y38.account, Value.int .i64 y38.made, Value.int .i64 y38.about, Value.int IntKind.u8 (y38.kind), Value.int .i64 y38.cents, Value.int .i64 y38.of_], ownR [] (intE .i64) 3 v8 ([known] : List Int)]) 0)))).cells.at 1 rfl) Tryd.isAgg79 rfl ?_
    refine s_mv rfl rfl ?_
    obtain ⟨y61, hy61, h⟩ := bnd h
    refine s_lkF (a := n) (z0 := 0) (hf25.adv (x32.trans (x35.trans ((Hp.eraseA (σ := [rowR 92 b29 [v22, v24, v26], ownR [] (intE .i64) 3 v8 ([known] : List Int)]) 0).trans (x54.trans (x57.trans (Hp.eraseA (σ := [rowR 61 b51 [Value.int .i64 y38.id, Value.int .i64 y38.source, Value.int .i64 y38.account, Value.int .i64 y38.made, Value.int .i64 y38.about, Value.int IntKind.u8 (y38.kind), Value.int .i64 y38.cents, Value.int .i64 y38.of_], ownR [] (intE .i64) 3 v8 ([known] : List Int)]) 0))))))) rfl rfl (show InK .i64 n from f_n_0) Tryd.underlying79 Tryd.zeroValue3 ⟨_, ⟨rfl, (by decide)⟩, .inr ⟨rfl, rfl⟩⟩ rfl ?_
    intro v62 hv63
    rw [Option.some.inj hy61] at hv63
    have hR64 := Vl.one1 hv63
    obtain ⟨r65', r65⟩ := hR64
    obtain rfl := one_inj r65'
    refine s_mv rfl rfl ?_
    refine s_xt rfl rfl rfl ?_
    refine s_xt rfl rfl rfl ?_
    refine s_as rfl rfl ?_
    refine s_as rfl rfl ?_
    refine Reg.nil ?_
    refine cw_seq (cw_regF ?_)
    refine s_fa rfl Tryd.underlying92 rfl Tryd.sizeOf79 rfl ?_
    refine s_ld rfl ((hC37.adv (x54.trans (x57.trans (Hp.eraseA (σ := [rowR 61 b51 [Value.int .i64 y38.id, Value.int .i64 y38.source, Value.int .i64 y38.account, Value.int .i64 y38.made, Value.int .i64 y38.about, Value.int IntKind.u8 (y38.kind), Value.int .i64 y38.cents, Value.int .i64 y38.of_], ownR [] (intE .i64) 3 v8 ([known] : List Int)]) 0)))).cells.at 2 rfl) Tryd.isAgg79 rfl ?_
    refine s_mv rfl rfl ?_
    obtain ⟨y66, hy66, h⟩ := bnd h
    refine s_lkF (a := n) (z0 := 0) (hf27.adv (x32.trans (x35.trans ((Hp.eraseA (σ := [rowR 92 b29 [v22, v24, v26], ownR [] (intE .i64) 3 v8 ([known] : List Int)]) 0).trans (x54.trans (x57.trans (Hp.eraseA (σ := [rowR 61 b51 [Value.int .i64 y38.id, Value.int .i64 y38.source, Value.int .i64 y38.account, Value.int .i64 y38.made, Value.int .i64 y38.about, Value.int IntKind.u8 (y38.kind), Value.int .i64 y38.cents, Value.int .i64 y38.of_], ownR [] (intE .i64) 3 v8 ([known] : List Int)]) 0))))))) rfl rfl (show InK .i64 n from f_n_0) Tryd.underlying79 Tryd.zeroValue3 ⟨_, ⟨rfl, (by decide)⟩, .inr ⟨rfl, rfl⟩⟩ rfl ?_
    intro v67 hv68
    rw [Option.some.inj hy66] at hv68
    have hR69 := Vl.one1 hv68
    obtain ⟨r70', r70⟩ := hR69
    obtain rfl := one_inj r70'
    refine s_mv rfl rfl ?_
    refine s_xt rfl rfl rfl ?_
    refine s_xt rfl rfl rfl ?_
    refine s_as rfl rfl ?_
    refine s_as rfl rfl ?_
    refine Reg.nil ?_
    refine cw_seq (cw_regF ?_)
    refine s_fa rfl Tryd.underlying92 rfl Tryd.sizeOf90 rfl ?_
    refine s_lda rfl (Cells.sub (hC37.adv (x54.trans (x57.trans (Hp.eraseA (σ := [rowR 61 b51 [Value.int .i64 y38.id, Value.int .i64 y38.source, Value.int .i64 y38.account, Value.int .i64 y38.made, Value.int .i64 y38.about, Value.int IntKind.u8 (y38.kind), Value.int .i64 y38.cents, Value.int .i64 y38.of_], ownR [] (intE .i64) 3 v8 ([known] : List Int)]) 0)))).cells 0 1) Tryd.isAgg90 rfl Tryd.sizeOf90 rfl ?_
    refine s_lda rfl hC59.cells Tryd.isAgg61 rfl Tryd.sizeOf61 rfl ?_
    obtain ⟨⟨z71, z72⟩, hz73, h⟩ := bnd h
    refine s_call rfl Tryd.call42 rfl ?_
    refine (C_account_store_aim (s := (Store.mk z18.store.reports)) (r := (Report.mk y38.id y38.source y38.account y38.made y38.about y38.kind y38.cents y38.of_)) hI58.mlt (hf23.adv (x32.trans (x35.trans ((Hp.eraseA (σ := [rowR 92 b29 [v22, v24, v26], ownR [] (intE .i64) 3 v8 ([known] : List Int)]) 0).trans (x54.trans (x57.trans (Hp.eraseA (σ := [rowR 61 b51 [Value.int .i64 y38.id, Value.int .i64 y38.source, Value.int .i64 y38.account, Value.int .i64 y38.made, Value.int .i64 y38.about, Value.int IntKind.u8 (y38.kind), Value.int .i64 y38.cents, Value.int .i64 y38.of_], ownR [] (intE .i64) 3 v8 ([known] : List Int)]) 0))))))) r43 r44 r45 r46 r47 r48 r49 r50 hz73).mono ?_
    rintro _ w74 ⟨rfl, r76, r77, r78, r79, r80, r81, r82, r83, e75⟩
    refine ⟨_, rfl, ?_⟩
    have hI84 := hI58.ext e75
    refine s_mv rfl rfl ?_
    refine s_xt rfl rfl rfl ?_
    refine s_xt rfl rfl rfl ?_
    refine y_al hI84 Tryd.zeroValue61 rfl rfl ?_
    intro b85 w86 hI87 x88
    refine y_st 0 hI87 rfl rfl rfl rfl Tryd.sizeOf61 rfl rfl (one1 rfl (one1 rfl (one1 rfl (one1 rfl (one1 rfl (one1 rfl (one1 rfl (one1 rfl one0)))))))) ?_
    intro w89 hI90 x91
    have hC93 := hI90.freezeRow 0 rfl
    have hI92 := hI90.erase 0
    refine s_as rfl rfl ?_
    refine Reg.nil ?_
    obtain ⟨j94, h95, h⟩ := bnd h
    refine cw_sub (L := [(17, _), (18, _), (1, _), (10, _), (11, _), (13, _), (14, _), (15, _), (16, _)]) (Sub.cons rfl (Sub.cons rfl (Sub.cons rfl (Sub.cons rfl (Sub.cons rfl (Sub.cons rfl (Sub.cons rfl (Sub.cons rfl (Sub.cons rfl (Sub.nil _)))))))))) ?_
    refine cw_seqD 2 (ι := Bool) (fun x96 => [(19, Value.bool x96)]) (fun x96 => fun w97 => w89 = w97 ∧ x96 = j94) ?_ ?_
    ·skip
     refine cw_regF ?_
     refine s_fa rfl Tryd.underlying61 rfl Tryd.sizeOf5 rfl ?_
     refine s_ld rfl ((hC59.adv ((Adv.of_ext e75).trans (x88.trans (x91.trans (Hp.eraseA (σ := [rowR 61 b85 [Value.int .i64 z71.id, Value.int .i64 z71.source, Value.int .i64 z71.account, Value.int .i64 z71.made, Value.int .i64 z71.about, Value.int IntKind.u8 (z71.kind), Value.int .i64 z71.cents, Value.int .i64 z71.of_], ownR [] (intE .i64) 3 v8 ([known] : List Int)]) 0))))).cells.at 5 rfl) Tryd.isAgg5 rfl ?_
     refine s_eql rfl rfl rfl ?_
     refine s_mv rfl rfl ?_
     refine Reg.gsplit (t := 68) rfl (fun hg100 => ?_) (fun hg100 => ?_)
     ·replace h95 := cdT hg100 h95
      refine Reg.take rfl rfl ?_
      refine s_mv rfl rfl ?_
      refine s_pkT rfl rfl rfl ?_
      refine s_mv rfl rfl ?_
      refine Reg.gsplit (t := 71) rfl (fun hg101 => ?_) (fun hg101 => ?_)
      ·replace h95 := cdT hg101 h95
       refine Reg.take rfl rfl ?_
       refine s_fa rfl Tryd.underlying61 rfl Tryd.sizeOf5 rfl ?_
       refine Reg.take rfl rfl ?_
       refine s_ld rfl (hC93.cells.at 5 rfl) Tryd.isAgg5 rfl ?_
       refine Reg.take rfl rfl ?_
       refine s_neq rfl rfl rfl ?_
       refine s_pkT rfl rfl rfl ?_
       refine s_as rfl rfl ?_
       refine Reg.nil ?_
       obtain rfl := Option.some.inj h95
       refine ⟨rfl, !decide (z71.kind = 9), ⟨rfl, rfl⟩, Sub.cons rfl (Sub.cons rfl (Sub.cons rfl (Sub.cons rfl (Sub.cons rfl (Sub.cons rfl (Sub.cons rfl (Sub.cons rfl (Sub.nil _))))))))⟩
      ·replace h95 := cdF hg101 h95
       refine Reg.pass rfl rfl rfl rfl ?_
       refine Reg.pass rfl rfl rfl rfl ?_
       refine Reg.pass rfl rfl rfl rfl ?_
       refine s_pkF rfl rfl rfl ?_
       refine s_as rfl rfl ?_
       refine Reg.nil ?_
       obtain rfl := Option.some.inj h95
       refine ⟨rfl, false, ⟨rfl, rfl⟩, Sub.cons rfl (Sub.cons rfl (Sub.cons rfl (Sub.cons rfl (Sub.cons rfl (Sub.cons rfl (Sub.cons rfl (Sub.cons rfl (Sub.nil _))))))))⟩
     ·replace h95 := cdF hg100 h95
      refine Reg.pass rfl rfl rfl rfl ?_
      refine s_pkF rfl rfl rfl ?_
      refine s_mv rfl rfl ?_
      refine Reg.pass rfl rfl rfl rfl ?_
      refine Reg.pass rfl rfl rfl rfl ?_
      refine Reg.pass rfl rfl rfl rfl ?_
      refine s_pkF rfl rfl rfl ?_
      refine s_as rfl rfl ?_
      refine Reg.nil ?_
      obtain rfl := Option.some.inj h95
      refine ⟨rfl, false, ⟨rfl, rfl⟩, Sub.cons rfl (Sub.cons rfl (Sub.cons rfl (Sub.cons rfl (Sub.cons rfl (Sub.cons rfl (Sub.cons rfl (Sub.cons rfl (Sub.nil _))))))))⟩
    ·skip
     rintro x96 _ ⟨rfl, rfl⟩
     obtain ⟨j102, h103, h⟩ := bnd h
     refine cw_sub (L := [(1, _), (10, _), (19, _), (11, _), (13, _), (14, _), (15, _), (16, _)]) (Sub.cons rfl (Sub.cons rfl (Sub.cons rfl (Sub.cons rfl (Sub.cons rfl (Sub.cons rfl (Sub.cons rfl (Sub.cons rfl (Sub.nil _))))))))) ?_
     refine cw_seqD 3 (ι := Bool) (fun x104 => [(19, Value.bool x104)]) (fun x104 => fun w105 => w89 = w105 ∧ x104 = j102) ?_ ?_
     ·skip
      refine cw_seq (cw_regF ?_)
      refine s_fa rfl Tryd.underlying61 rfl Tryd.sizeOf5 rfl ?_
      refine s_ld rfl ((hC59.adv ((Adv.of_ext e75).trans (x88.trans (x91.trans (Hp.eraseA (σ := [rowR 61 b85 [Value.int .i64 z71.id, Value.int .i64 z71.source, Value.int .i64 z71.account, Value.int .i64 z71.made, Value.int .i64 z71.about, Value.int IntKind.u8 (z71.kind), Value.int .i64 z71.cents, Value.int .i64 z71.of_], ownR [] (intE .i64) 3 v8 ([known] : List Int)]) 0))))).cells.at 5 rfl) Tryd.isAgg5 rfl ?_
      refine s_eql rfl rfl rfl ?_
      refine Reg.nil ?_
      obtain ⟨j108, h109, h103⟩ := bnd h103
      refine cw_sub (L := [(1, _), (10, _), (19, _), (78, _), (11, _), (13, _), (14, _), (15, _), (16, _)]) (Sub.cons rfl (Sub.cons rfl (Sub.cons rfl (Sub.cons rfl (Sub.cons rfl (Sub.cons rfl (Sub.cons rfl (Sub.cons rfl (Sub.cons rfl (Sub.nil _)))))))))) ?_
      refine cw_unitD 4 (ι := Bool) (fun x110 => [(19, Value.bool x110)]) (fun x110 => fun w111 => w89 = w111 ∧ x110 = j108) ?_ ?_
      ·skip
       refine cw_cond rfl (fun hc114 => ?_) (fun hc114 => ?_)
       ·replace h109 := cdT hc114 h109
        refine cw_seq (cw_regF ?_)
        refine s_fa rfl Tryd.underlying92 rfl Tryd.sizeOf79 rfl ?_
        refine s_ld rfl ((hC37.adv (x54.trans (x57.trans ((Hp.eraseA (σ := [rowR 61 b51 [Value.int .i64 y38.id, Value.int .i64 y38.source, Value.int .i64 y38.account, Value.int .i64 y38.made, Value.int .i64 y38.about, Value.int IntKind.u8 (y38.kind), Value.int .i64 y38.cents, Value.int .i64 y38.of_], ownR [] (intE .i64) 3 v8 ([known] : List Int)]) 0).trans ((Adv.of_ext e75).trans (x88.trans (x91.trans (Hp.eraseA (σ := [rowR 61 b85 [Value.int .i64 z71.id, Value.int .i64 z71.source, Value.int .i64 z71.account, Value.int .i64 z71.made, Value.int .i64 z71.about, Value.int IntKind.u8 (z71.kind), Value.int .i64 z71.cents, Value.int .i64 z71.of_], ownR [] (intE .i64) 3 v8 ([known] : List Int)]) 0)))))))).cells.at 2 rfl) Tryd.isAgg79 rfl ?_
        refine s_fa rfl Tryd.underlying61 rfl Tryd.sizeOf3 rfl ?_
        refine s_ld rfl ((hC59.adv ((Adv.of_ext e75).trans (x88.trans (x91.trans (Hp.eraseA (σ := [rowR 61 b85 [Value.int .i64 z71.id, Value.int .i64 z71.source, Value.int .i64 z71.account, Value.int .i64 z71.made, Value.int .i64 z71.about, Value.int IntKind.u8 (z71.kind), Value.int .i64 z71.cents, Value.int .i64 z71.of_], ownR [] (intE .i64) 3 v8 ([known] : List Int)]) 0))))).cells.at 7 rfl) Tryd.isAgg3 rfl ?_
        obtain ⟨y115, hy115, h109⟩ := bnd h109
        refine s_lkF (a := y38.of_) (z0 := 0) (hf27.adv (x32.trans (x35.trans ((Hp.eraseA (σ := [rowR 92 b29 [v22, v24, v26], ownR [] (intE .i64) 3 v8 ([known] : List Int)]) 0).trans (x54.trans (x57.trans ((Hp.eraseA (σ := [rowR 61 b51 [Value.int .i64 y38.id, Value.int .i64 y38.source, Value.int .i64 y38.account, Value.int .i64 y38.made, Value.int .i64 y38.about, Value.int IntKind.u8 (y38.kind), Value.int .i64 y38.cents, Value.int .i64 y38.of_], ownR [] (intE .i64) 3 v8 ([known] : List Int)]) 0).trans ((Adv.of_ext e75).trans (x88.trans (x91.trans (Hp.eraseA (σ := [rowR 61 b85 [Value.int .i64 z71.id, Value.int .i64 z71.source, Value.int .i64 z71.account, Value.int .i64 z71.made, Value.int .i64 z71.about, Value.int IntKind.u8 (z71.kind), Value.int .i64 z71.cents, Value.int .i64 z71.of_], ownR [] (intE .i64) 3 v8 ([known] : List Int)]) 0))))))))))) rfl rfl (show InK .i64 y38.of_ from r50) Tryd.underlying79 Tryd.zeroValue3 ⟨_, ⟨rfl, (by decide)⟩, .inr ⟨rfl, rfl⟩⟩ rfl ?_
        intro v116 hv117
        rw [Option.some.inj hy115] at hv117
        have hR118 := Vl.one1 hv117
        obtain ⟨r119', r119⟩ := hR118
        obtain rfl := one_inj r119'
        refine s_mv rfl rfl ?_
        refine s_xt rfl rfl rfl ?_
        refine s_xt rfl rfl rfl ?_
        refine s_as rfl rfl ?_
        refine s_as rfl rfl ?_
        refine Reg.nil ?_
        obtain ⟨j120, h121, h109⟩ := bnd h109
        refine cw_sub (L := [(1, _), (20, _), (21, _), (11, _), (13, _), (14, _), (15, _), (16, _)]) (Sub.cons rfl (Sub.cons rfl (Sub.cons rfl (Sub.cons rfl (Sub.cons rfl (Sub.cons rfl (Sub.cons rfl (Sub.cons rfl (Sub.nil _))))))))) ?_
        refine cw_unitD 3 (ι := Bool) (fun x122 => [(19, Value.bool x122)]) (fun x122 => fun w123 => w89 = w123 ∧ x122 = j120) ?_ ?_
        ·skip
         refine cw_regF ?_
         refine s_mv rfl rfl ?_
         refine s_mv rfl rfl ?_
         refine Reg.gsplit (t := 88) rfl (fun hg126 => ?_) (fun hg126 => ?_)
         ·replace h121 := cdT hg126 h121
          refine Reg.take rfl rfl ?_
          refine s_mv rfl rfl ?_
          refine Reg.take rfl rfl ?_
          refine s_mv rfl rfl ?_
          refine Reg.take rfl rfl ?_
          refine s_eql rfl rfl rfl ?_
          refine s_pkT rfl rfl rfl ?_
          refine s_as rfl rfl ?_
          refine Reg.nil ?_
          obtain rfl := Option.some.inj h121
          refine ⟨rfl, decide (y115 = n), ⟨rfl, rfl⟩, Sub.cons rfl (Sub.cons rfl (Sub.cons rfl (Sub.cons rfl (Sub.cons rfl (Sub.cons rfl (Sub.nil _))))))⟩
         ·replace h121 := cdF hg126 h121
          refine Reg.pass rfl rfl rfl rfl ?_
          refine Reg.pass rfl rfl rfl rfl ?_
          refine Reg.pass rfl rfl rfl rfl ?_
          refine s_pkF rfl rfl rfl ?_
          refine s_as rfl rfl ?_
          refine Reg.nil ?_
          obtain rfl := Option.some.inj h121
          refine ⟨rfl, false, ⟨rfl, rfl⟩, Sub.cons rfl (Sub.cons rfl (Sub.cons rfl (Sub.cons rfl (Sub.cons rfl (Sub.cons rfl (Sub.nil _))))))⟩
        ·skip
         rintro x122 _ ⟨rfl, rfl⟩
         obtain rfl := Option.some.inj h109
         refine ⟨rfl, x122, ⟨rfl, rfl⟩, Sub.cons rfl (Sub.cons rfl (Sub.cons rfl (Sub.cons rfl (Sub.cons rfl (Sub.cons rfl (Sub.nil _))))))⟩
       ·replace h109 := cdF hc114 h109
        refine cw_skip ?_
        obtain rfl := Option.some.inj h109
        refine ⟨rfl, x96, ⟨rfl, rfl⟩, Sub.cons rfl (Sub.cons rfl (Sub.cons rfl (Sub.cons rfl (Sub.cons rfl (Sub.cons rfl (Sub.nil _))))))⟩
      ·skip
       rintro x110 _ ⟨rfl, rfl⟩
       obtain rfl := Option.some.inj h103
       refine ⟨rfl, x110, ⟨rfl, rfl⟩, Sub.cons rfl (Sub.cons rfl (Sub.cons rfl (Sub.cons rfl (Sub.cons rfl (Sub.cons rfl (Sub.nil _))))))⟩
     ·skip
      rintro x104 _ ⟨rfl, rfl⟩
      refine cw_seq ?_
      refine cw_block ?_
      refine cw_seq (cw_regF ?_)
      refine s_mv rfl rfl ?_
      refine s_as rfl rfl ?_
      refine Reg.nil ?_
      refine cw_cond rfl (fun hc127 => ?_) (fun hc127 => ?_)
      ·replace h := cdT hc127 h
       refine cw_seq (cw_regF ?_)
       refine s_mv rfl rfl ?_
       refine s_as rfl rfl ?_
       refine s_as rfl rfl ?_
       refine s_as rfl rfl ?_
       refine Reg.nil ?_
       refine cw_ret ?_
       obtain ⟨rfl, rfl, rfl⟩ := inj3 h
       refine fin3 Tryd.results15 rfl rfl rfl ?_
       exact ⟨rfl, (by decide), r65, (by decide), hI92.kp⟩
      ·replace h := cdF hc127 h
       refine cw_seq (cw_regF ?_)
       refine s_mv rfl rfl ?_
       refine s_as rfl rfl ?_
       refine Reg.nil ?_
       refine cw_cond rfl (fun hc128 => ?_) (fun hc128 => ?_)
       ·replace h := cdT hc128 h
        refine cw_seq (cw_regF ?_)
        refine s_as rfl rfl ?_
        refine s_as rfl rfl ?_
        refine s_as rfl rfl ?_
        refine Reg.nil ?_
        refine cw_ret ?_
        obtain ⟨rfl, rfl, rfl⟩ := inj3 h
        refine fin3 Tryd.results15 rfl rfl rfl ?_
        exact ⟨rfl, (by decide), (by decide), (by decide), hI92.kp⟩
       ·replace h := cdF hc128 h
        refine cw_seq (cw_regF ?_)
        refine s_lda rfl (hC59.adv ((Adv.of_ext e75).trans (x88.trans (x91.trans (Hp.eraseA (σ := [rowR 61 b85 [Value.int .i64 z71.id, Value.int .i64 z71.source, Value.int .i64 z71.account, Value.int .i64 z71.made, Value.int .i64 z71.about, Value.int IntKind.u8 (z71.kind), Value.int .i64 z71.cents, Value.int .i64 z71.of_], ownR [] (intE .i64) 3 v8 ([known] : List Int)]) 0))))).cells Tryd.isAgg61 rfl Tryd.sizeOf61 rfl ?_
        obtain ⟨z129, hz130, h⟩ := bnd h
        refine s_call rfl Tryd.call43 rfl ?_
        refine (C_account_fact (r := (Report.mk y38.id y38.source y38.account y38.made y38.about y38.kind y38.cents y38.of_)) hI92.mlt r43 r44 r45 r46 r47 r48 r49 r50 hz130).mono ?_
        rintro _ w131 ⟨rfl, e132⟩
        refine ⟨_, rfl, ?_⟩
        have hI133 := hI92.ext e132
        refine s_not rfl rfl ?_
        refine s_as rfl rfl ?_
        refine Reg.nil ?_
        refine cw_cond rfl (fun hc134 => ?_) (fun hc134 => ?_)
        ·replace h := cdT hc134 h
         refine cw_seq (cw_regF ?_)
         refine s_as rfl rfl ?_
         refine s_as rfl rfl ?_
         refine s_as rfl rfl ?_
         refine Reg.nil ?_
         refine cw_ret ?_
         obtain ⟨rfl, rfl, rfl⟩ := inj3 h
         refine fin3 Tryd.results15 rfl rfl rfl ?_
         exact ⟨rfl, (by decide), (by decide), (by decide), hI133.kp⟩
        ·replace h := cdF hc134 h
         refine cw_seq (cw_regF ?_)
         refine s_mv rfl rfl ?_
         refine s_as rfl rfl ?_
         refine Reg.nil ?_
         refine cw_cond rfl (fun hc135 => ?_) (fun hc135 => ?_)
         ·replace h := cdT hc135 h
          refine cw_seq (cw_regF ?_)
          refine s_mv rfl rfl ?_
          refine s_as rfl rfl ?_
          refine s_as rfl rfl ?_
          refine s_as rfl rfl ?_
          refine Reg.nil ?_
          refine cw_ret ?_
          obtain ⟨rfl, rfl, rfl⟩ := inj3 h
          refine fin3 Tryd.results15 rfl rfl rfl ?_
          exact ⟨rfl, (by decide), r70, (by decide), hI133.kp⟩
         ·replace h := cdF hc135 h
          refine cw_skip (cw_seq (cw_regF ?_))
          refine s_as rfl rfl ?_
          refine s_as rfl rfl ?_
          refine s_as rfl rfl ?_
          refine Reg.nil ?_
          refine cw_ret ?_
          obtain ⟨rfl, rfl, rfl⟩ := inj3 h
          refine fin3 Tryd.results15 rfl rfl rfl ?_
          exact ⟨rfl, (by decide), (by decide), (by decide), hI133.kp⟩
end Go.Proofs.YtepjkmoipjeghaaDoor
set_option maxRecDepth 20000
set_option maxHeartbeats 4000000
namespace Go.Proofs.YtepjkmoipjeghaaDoor
open Go Go.Sx Go.RowKit
variable [Trk]
noncomputable def P.account_about (r : Report) : Option Int :=
 some r.about
theorem C_account_about {M : List Nat} {w : World} (hM : MLt M w) {r : Report} (f_r_0 : InK .i64 r.id) (f_r_1 : InK .i64 r.source) (f_r_2 : InK .i64 r.account) (f_r_3 : InK .i64 r.made) (f_r_4 : InK .i64 r.about) (f_r_5 : InK IntKind.u8 r.kind) (f_r_6 : InK .i64 r.cents) (f_r_7 : InK .i64 r.of_) {r0 : Int} (h : P.account_about r = some r0) :
  Calls Tryd.prog 75 (List.toArray [Value.agg (List.toArray [Value.int .i64 r.id, Value.int .i64 r.source, Value.int .i64 r.account, Value.int .i64 r.made, Value.int .i64 r.about, Value.int IntKind.u8 r.kind, Value.int .i64 r.cents, Value.int .i64 r.of_])]) w fun e w' => e = .returned (Value.int .i64 r0) ∧ InK .i64 r0 ∧ Ext w w' := by
 have hI := Hp.start (Mu := []) hM
 refine calls_cw Tryd.func75 rfl Tryd.ntmps75 rfl ?_
 refine cw_seq (cw_regF ?_)
 refine y_box hI rfl rfl rfl ?_
 intro b1 w2 hI3 x4
 have hC6 := hI3.freezeRow 0 rfl
 have hI5 := hI3.erase 0
 refine s_as rfl rfl ?_
 refine Reg.nil ?_
 refine cw_seq (cw_regF ?_)
 refine s_fa rfl Tryd.underlying61 rfl Tryd.sizeOf3 rfl ?_
 refine s_ld rfl (hC6.cells.at 4 rfl) Tryd.isAgg3 rfl ?_
 refine s_as rfl rfl ?_
 refine Reg.nil ?_
 refine cw_ret ?_
 obtain rfl := Option.some.inj h
 refine fin1 Tryd.results75 rfl ?_
 exact ⟨rfl, f_r_4, hI5.kp⟩
noncomputable def P.account_id (r : Report) : Option Int :=
 some r.id
theorem C_account_id {M : List Nat} {w : World} (hM : MLt M w) {r : Report} (f_r_0 : InK .i64 r.id) (f_r_1 : InK .i64 r.source) (f_r_2 : InK .i64 r.account) (f_r_3 : InK .i64 r.made) (f_r_4 : InK .i64 r.about) (f_r_5 : InK IntKind.u8 r.kind) (f_r_6 : InK .i64 r.cents) (f_r_7 : InK .i64 r.of_) {r0 : Int} (h : P.account_id r = some r0) :
  Calls Tryd.prog 76 (List.toArray [Value.agg (List.toArray [Value.int .i64 r.id, Value.int .i64 r.source, Value.int .i64 r.account, Value.int .i64 r.made, Value.int .i64 r.about, Value.int IntKind.u8 r.kind, Value.int .i64 r.cents, Value.int .i64 r.of_])]) w fun e w' => e = .returned (Value.int .i64 r0) ∧ InK .i64 r0 ∧ Ext w w' := by
 have hI := Hp.start (Mu := []) hM
 refine calls_cw Tryd.func76 rfl Tryd.ntmps76 rfl ?_
 refine cw_seq (cw_regF ?_)
 refine y_box hI rfl rfl rfl ?_
 intro b1 w2 hI3 x4
 have hC6 := hI3.freezeRow 0 rfl
 have hI5 := hI3.erase 0
 refine s_as rfl rfl ?_
 refine Reg.nil ?_
 refine cw_seq (cw_regF ?_)
 refine s_fa rfl Tryd.underlying61 rfl Tryd.sizeOf3 rfl ?_
 refine s_ld rfl (hC6.cells.at 0 rfl) Tryd.isAgg3 rfl ?_
 refine s_as rfl rfl ?_
 refine Reg.nil ?_
 refine cw_ret ?_
 obtain rfl := Option.some.inj h
 refine fin1 Tryd.results76 rfl ?_
 exact ⟨rfl, f_r_0, hI5.kp⟩
end Go.Proofs.YtepjkmoipjeghaaDoor
namespace Go.Proofs.YtepjkmoipjeghaaDoor
open Go Go.Sx Go.RowKit
variable [Trk]
theorem sl145 : SlT Tryd.prog 145 135 1 8 := ⟨Tryd.underlying145, Tryd.t135, _, by kernel_rfl, rfl, rfl, rfl, rfl⟩
noncomputable def P.fn135 (n : Nat) (r : Report) : Option Int := if n = 75 then P.account_about r else if n = 76 then P.account_id r else none
theorem C_fn135 {M : List Nat} {w : World} (hM : MLt M w) {n : Nat} {r : Report} (f0 : InK .i64 r.id) (f1 : InK .i64 r.source) (f2 : InK .i64 r.account) (f3 : InK .i64 r.made) (f4 : InK .i64 r.about) (f5 : InK .u8 r.kind) (f6 : InK .i64 r.cents) (f7 : InK .i64 r.of_) {r0 : Int} (h : P.fn135 n r = some r0) :
    CallsV Tryd.prog (.func (.func n) #[] #[]) [.agg (List.toArray [.int .i64 r.id, .int .i64 r.source, .int .i64 r.account, .int .i64 r.made, .int .i64 r.about, .int .u8 r.kind, .int .i64 r.cents, .int .i64 r.of_])] w fun e w' => e = .returned (.int .i64 r0) ∧ InK .i64 r0 ∧ Ext w w' := by
  unfold P.fn135 at h
  split at h
  · rename_i e
    subst e
    exact CallsV.ofL Tryd.call75 rfl (C_account_about hM f0 f1 f2 f3 f4 f5 f6 f7 h)
  · split at h
    · rename_i e
      subst e
      exact CallsV.ofL Tryd.call76 rfl (C_account_id hM f0 f1 f2 f3 f4 f5 f6 f7 h)
    · cases h
end Go.Proofs.YtepjkmoipjeghaaDoor
set_option maxRecDepth 20000
set_option maxHeartbeats 4000000
namespace Go.Proofs.YtepjkmoipjeghaaDoor
open Go Go.Sx Go.RowKit
variable [Trk]
noncomputable def P.account_ordered_api_Report_in1 (a : Report) (b : Report) (by__c : (List Nat)) : Option Int :=
 Option.bind (loopM (S := Int) (R := (Unit) ⊕ (Int)) (fun x13 => cond (decide (x13 < (by__c.length : Int))) (Option.bind (ixo by__c x13) fun y15 => Option.bind (P.fn135 y15 (Report.mk a.id a.source a.account a.made a.about a.kind a.cents a.of_)) fun z24 => Option.bind (P.fn135 y15 (Report.mk b.id b.source b.account b.made b.about b.kind b.cents b.of_)) fun z32 => Option.bind (P.cmp_Compare_72 z24 z32) fun z40 => cond (!decide (z40 = 0)) (some (.inr (.inr z40))) (Option.bind (chk .i64 (x13 + 1)) fun n54 => some (.inl n54))) (some (.inr (.inl ())))) 0) fun j55 => Sum.elim (fun _ => some 0) (fun r56 => some r56)  j55
theorem C_account_ordered_api_Report_in1 {M : List Nat} {w : World} (hM : MLt M w) {a : Report} (f_a_0 : InK .i64 a.id) (f_a_1 : InK .i64 a.source) (f_a_2 : InK .i64 a.account) (f_a_3 : InK .i64 a.made) (f_a_4 : InK .i64 a.about) (f_a_5 : InK IntKind.u8 a.kind) (f_a_6 : InK .i64 a.cents) (f_a_7 : InK .i64 a.of_) {b : Report} (f_b_0 : InK .i64 b.id) (f_b_1 : InK .i64 b.source) (f_b_2 : InK .i64 b.account) (f_b_3 : InK .i64 b.made) (f_b_4 : InK .i64 b.about) (f_b_5 : InK IntKind.u8 b.kind) (f_b_6 : InK .i64 b.cents) (f_b_7 : InK .i64 b.of_) {by__c : (List Nat)} {v_by__c_0 : Value} (f_by__c_0 : RdS fnE M w v_by__c_0 by__c) {b_by__c : Nat} (c_by__c : RdC M w b_by__c 0 [v_by__c_0]) {r0 : Int} (h : P.account_ordered_api_Report_in1 a b by__c = some r0) :
  Calls Tryd.prog 94 (List.toArray [Value.agg (List.toArray [Value.int .i64 a.id, Value.int .i64 a.source, Value.int .i64 a.account, Value.int .i64 a.made, Value.int .i64 a.about, Value.int IntKind.u8 a.kind, Value.int .i64 a.cents, Value.int .i64 a.of_]), Value.agg (List.toArray [Value.int .i64 b.id, Value.int .i64 b.source, Value.int .i64 b.account, Value.int .i64 b.made, Value.int .i64 b.about, Value.int IntKind.u8 b.kind, Value.int .i64 b.cents, Value.int .i64 b.of_]), Value.pointer (some ⟨b_by__c, 0, none⟩)]) w fun e w' => e = .returned (Value.int .i64 r0) ∧ InK .i64 r0 ∧ Ext w w' := by
 have hI := Hp.start (Mu := []) hM
 refine calls_cw Tryd.func94 rfl Tryd.ntmps94 rfl ?_
 refine cw_seq (cw_regF ?_)
 refine y_box hI rfl rfl rfl ?_
 intro b1 w2 hI3 x4
 have hC6 := hI3.freezeRow 0 rfl
 have hI5 := hI3.erase 0
 refine y_box hI5 rfl rfl rfl ?_
 intro b7 w8 hI9 x10
 have hC12 := hI9.freezeRow 0 rfl
 have hI11 := hI9.erase 0
 refine s_as rfl rfl ?_
 refine Reg.nil ?_
 refine cw_seq (cw_seq (cw_regF ?_))
 refine s_ld rfl ((c_by__c.adv hI11.adv).cells.at 0 rfl) Tryd.isAgg145 rfl ?_
 refine s_len rfl (f_by__c_0.adv hI11.adv) Tryd.underlying145 rfl ?_
 refine s_mv rfl rfl ?_
 refine Reg.nil ?_
 obtain ⟨j13, h14, h⟩ := bnd h
 refine cw_sub (L := [(3, _), (4, _), (9, _), (10, _), (11, _)]) (Sub.cons rfl (Sub.cons rfl (Sub.cons rfl (Sub.cons rfl (Sub.cons rfl (Sub.nil _)))))) ?_
 refine cw_unitD 5 (ι := Unit) (fun _ => []) (fun _ => fun w15 => Hp w [] M [] w15 ∧ Adv (mm [] M) (mm [] M) w8 w15 ∧ (.inl ()) = j13) ?_ ?_
 ·skip
  refine cw_block ?_
  refine cw_sub (L := [(11, _), (3, _), (4, _), (9, _), (10, _)]) (Sub.cons rfl (Sub.cons rfl (Sub.cons rfl (Sub.cons rfl (Sub.cons rfl (Sub.nil _)))))) ?_
  refine cw_loopM 1 (ι := Int) _ (fun x18 => [(11, Value.int .i64 x18)]) (fun x18 => x18) (fun x18 => fun w20 => Hp w [] M [] w20 ∧ Adv (mm [] M) (mm [] M) w8 w20 ∧ InK .i64 x18) 0 h14 ⟨hI11, (Adv.refl _ _), (by decide)⟩ (Sub.cons rfl (Sub.cons rfl (Sub.cons rfl (Sub.cons rfl (Sub.cons rfl (Sub.nil _)))))) ?_
  rintro x18 w20 ⟨hI21, hA22, r19⟩ y23 h24 hR25
  refine cw_seq (cw_regF ?_)
  refine s_lss rfl rfl rfl ?_
  refine Reg.nil ?_
  refine cw_seq ?_
  refine cw_cond rfl (fun hc26 => ?_) (fun hc26 => ?_)
  ·replace h24 := cdT hc26 h24
   refine cw_skip ?_
   refine cw_seq ?_
   refine cw_block ?_
   refine cw_seq (cw_regF ?_)
   obtain ⟨y27, hy27, h24⟩ := bnd h24
   refine p_ia rfl rfl (f_by__c_0.adv hI21.adv) hy27 Tryd.underlying145 Tryd.sizeOf135 rfl ?_
   intro b28 o29 cs30 hR31 hC32
   obtain rfl := hR31
   refine s_ld rfl (hC32.cells.at 0 rfl) Tryd.isAgg135 rfl ?_
   refine s_as rfl rfl ?_
   refine Reg.nil ?_
   refine cw_seq ?_
   refine cw_regSea [0, 1, 3, 4] [2, 5, 6, 7] [] [] [] [] fol (by kernel_rfl) rfl (by kernel_rfl) rfl rfl ?_
   refine s_mv rfl rfl ?_
   refine s_lda rfl (hC6.adv (x10.trans ((Hp.eraseA (σ := [rowR 61 b7 [Value.int .i64 b.id, Value.int .i64 b.source, Value.int .i64 b.account, Value.int .i64 b.made, Value.int .i64 b.about, Value.int IntKind.u8 (b.kind), Value.int .i64 b.cents, Value.int .i64 b.of_]]) 0).trans hA22))).cells Tryd.isAgg61 rfl Tryd.sizeOf61 rfl ?_
   refine s_mv rfl rfl ?_
   refine s_lda rfl (hC12.adv hA22).cells Tryd.isAgg61 rfl Tryd.sizeOf61 rfl ?_
   refine Reg.nilX ⟨rfl, rfl, rfl, ?_⟩
   intro w33 e34
   have hI35 := (Hp.start (Mu := []) hI21.mlt).ext e34
   refine SeaWalk.step [2] (by kernel_rfl) (AllL.cons ?_ (AllL.nil))
   refine ⟨_, [], rfl, RSub.nil, rfl, nodupB_spec rfl, ?_⟩
   simp only [relOut]
   obtain ⟨z36, hz36, h24⟩ := bnd h24
   refine s_callV rfl rfl rfl ?_
   refine (C_fn135 hI35.mlt f_a_0 f_a_1 f_a_2 f_a_3 f_a_4 f_a_5 f_a_6 f_a_7 hz36).mono ?_
   rintro _ w37 ⟨rfl, r39, e38⟩
   refine ⟨_, rfl, ?_⟩
   have hI40 := hI35.ext e38
   refine Reg.nil ⟨rfl, .inr hI40.kp, rfl, ?_⟩
   intro w41 e42
   have hI43 := hI40.ext e42
   refine SeaWalk.step [5] (by kernel_rfl) (AllL.cons ?_ (AllL.nil))
   refine ⟨_, [], rfl, RSub.nil, rfl, nodupB_spec rfl, ?_⟩
   simp only [relOut]
   obtain ⟨z44, hz44, h24⟩ := bnd h24
   refine s_callV rfl rfl rfl ?_
   refine (C_fn135 hI43.mlt f_b_0 f_b_1 f_b_2 f_b_3 f_b_4 f_b_5 f_b_6 f_b_7 hz44).mono ?_
   rintro _ w45 ⟨rfl, r47, e46⟩
   refine ⟨_, rfl, ?_⟩
   have hI48 := hI43.ext e46
   refine Reg.nil ⟨rfl, .inr hI48.kp, rfl, ?_⟩
   intro w49 e50
   have hI51 := hI48.ext e50
   refine SeaWalk.step [6] (by kernel_rfl) (AllL.cons ?_ (AllL.nil))
   refine ⟨_, [], rfl, RSub.nil, rfl, nodupB_spec rfl, ?_⟩
   simp only [relOut]
   obtain ⟨z52, hz53, h24⟩ := bnd h24
   refine s_call rfl Tryd.call72 rfl ?_
   refine (C_cmp_Compare_72 hI51.mlt r39 r47 hz53).mono ?_
   rintro _ w54 ⟨rfl, r56, e55⟩
   refine ⟨_, rfl, ?_⟩
   have hI57 := hI51.ext e55
   refine Reg.nil ⟨rfl, .inr hI57.kp, rfl, ?_⟩
   intro w58 e59
   have hI60 := hI57.ext e59
   refine SeaWalk.step [7] (by kernel_rfl) (AllL.cons ?_ (AllL.nil))
   refine ⟨_, [], rfl, RSub.nil, rfl, nodupB_spec rfl, ?_⟩
   simp only [relOut]
   refine s_as rfl rfl ?_
   refine Reg.nil ⟨rfl, .inr hI60.kp, rfl, ?_⟩
   intro w61 e62
   have hI63 := hI60.ext e62
   refine SeaWalk.done ?_
   have hI64 := hI21.join hI63
   refine cw_seq (cw_regF ?_)
   refine s_mv rfl rfl ?_
   refine s_neq rfl rfl rfl ?_
   refine Reg.nil ?_
   refine cw_cond rfl (fun hc65 => ?_) (fun hc65 => ?_)
   ·replace h24 := cdT hc65 h24
    refine cw_seq (cw_regF ?_)
    refine s_mv rfl rfl ?_
    refine s_as rfl rfl ?_
    refine Reg.nil ?_
    refine cw_ret ?_
    obtain rfl := Option.some.inj h24
    obtain rfl := hR25 _ rfl
    replace h := elimR h
    obtain rfl := Option.some.inj h
    refine fin1 Tryd.results94 rfl ?_
    exact ⟨rfl, r56, hI64.kp⟩
   ·replace h24 := cdF hc65 h24
    refine cw_skip ?_
    refine cw_regF ?_
    obtain ⟨n66, hn66, h24⟩ := bnd h24
    replace hn66 := chk_out hn66
    refine p_add rfl rfl rfl hn66 ?_
    refine s_mv rfl rfl ?_
    refine Reg.nil ?_
    obtain rfl := Option.some.inj h24
    refine ⟨rfl, n66, ⟨⟨hI64, (hA22.trans ((Adv.of_ext e34).trans ((Adv.of_ext e38).trans ((Adv.of_ext e42).trans ((Adv.of_ext e46).trans ((Adv.of_ext e50).trans ((Adv.of_ext e55).trans ((Adv.of_ext e59).trans (Adv.of_ext e62))))))))), hn66.2⟩, rfl⟩, Sub.cons rfl (Sub.cons rfl (Sub.cons rfl (Sub.cons rfl (Sub.cons rfl (Sub.nil _)))))⟩
  ·replace h24 := cdF hc26 h24
   refine cw_exit ?_
   refine exB_same ?_
   obtain rfl := Option.some.inj h24
   obtain rfl := hR25 _ rfl
   refine ⟨rfl, (), ⟨hI21, hA22, rfl⟩, Sub.nil _⟩
 ·skip
  rintro _ w15 ⟨hI16, hA17, rfl⟩
  replace h := elimL h
  refine cw_seq (cw_regF ?_)
  refine s_as rfl rfl ?_
  refine Reg.nil ?_
  refine cw_ret ?_
  obtain rfl := Option.some.inj h
  refine fin1 Tryd.results94 rfl ?_
  exact ⟨rfl, (by decide), hI16.kp⟩
end Go.Proofs.YtepjkmoipjeghaaDoor
namespace Go.Proofs
open Go.Shelf
def Tryd.laySortFunc_ren : Go.Shelf.Ren := ⟨fun | 6 => 93 | 15 => 98 | 14 => 97 | 28 => 107 | 29 => 108 | 20 => 99 | 21 => 100 | 22 => 101 | 23 => 102 | 24 => 103 | 25 => 104 | 26 => 105 | 27 => 106 | 46 => 109 | 47 => 110 | 48 => 111 | 49 => 112 | 50 => 113 | 57 => 114 | n => n, fun | 22 => 22 | 24 => 61 | 25 => 147 | 3 => 3 | 39 => 151 | 0 => 0 | 53 => 65 | 55 => 161 | 4 => 4 | 46 => 154 | 45 => 153 | 50 => 98 | 5 => 5 | 9 => 9 | 66 => 162 | 70 => 166 | 76 => 168 | 77 => 169 | n => n, fun | n => n⟩
theorem Tryd.laySortFunc : Go.Proofs.SlLaysF0.n6 Tryd.prog Tryd.laySortFunc_ren := {
  mixed := by kernel_rfl
  f6 := ⟨Tryd.f93.name, by decide, Tryd.func93.trans (congrArg some (by kernel_rfl))⟩
  f14 := ⟨Tryd.f97.name, by decide, Tryd.func97.trans (congrArg some (by kernel_rfl))⟩
  f15 := Tryd.func98.trans (congrArg some (by kernel_rfl))
  f20 := ⟨Tryd.f99.name, by decide, Tryd.func99.trans (congrArg some (by kernel_rfl))⟩
  f21 := ⟨Tryd.f100.name, by decide, Tryd.func100.trans (congrArg some (by kernel_rfl))⟩
  f22 := ⟨Tryd.f101.name, by decide, Tryd.func101.trans (congrArg some (by kernel_rfl))⟩
  f23 := ⟨Tryd.f102.name, by decide, Tryd.func102.trans (congrArg some (by kernel_rfl))⟩
  f24 := ⟨Tryd.f103.name, by decide, Tryd.func103.trans (congrArg some (by kernel_rfl))⟩
  f25 := ⟨Tryd.f104.name, by decide, Tryd.func104.trans (congrArg some (by kernel_rfl))⟩
  f26 := ⟨Tryd.f105.name, by decide, Tryd.func105.trans (congrArg some (by kernel_rfl))⟩
  f27 := ⟨Tryd.f106.name, by decide, Tryd.func106.trans (congrArg some (by kernel_rfl))⟩
  f28 := Tryd.func107.trans (congrArg some (by kernel_rfl))
  f29 := Tryd.func108.trans (congrArg some (by kernel_rfl))
  f46 := ⟨Tryd.f109.name, by decide, Tryd.func109.trans (congrArg some (by kernel_rfl))⟩
  f47 := Tryd.func110.trans (congrArg some (by kernel_rfl))
  f48 := Tryd.func111.trans (congrArg some (by kernel_rfl))
  f49 := ⟨Tryd.f112.name, by decide, Tryd.func112.trans (congrArg some (by kernel_rfl))⟩
  f50 := ⟨Tryd.f113.name, by decide, Tryd.func113.trans (congrArg some (by kernel_rfl))⟩
  f57 := ⟨Tryd.f114.name, by decide, Tryd.func114.trans (congrArg some (by kernel_rfl))⟩
  t0 := Tryd.underlying0
  a0 := Tryd.isAgg0
  z0 := Tryd.sizeOf0
  v0 := Tryd.zeroValue0
  t3 := Tryd.underlying3
  a3 := Tryd.isAgg3
  z3 := Tryd.sizeOf3
  v3 := Tryd.zeroValue3
  t4 := Tryd.underlying4
  a4 := Tryd.isAgg4
  z4 := Tryd.sizeOf4
  v4 := Tryd.zeroValue4
  t5 := Tryd.underlying5
  a5 := Tryd.isAgg5
  z5 := Tryd.sizeOf5
  v5 := Tryd.zeroValue5
  t9 := Tryd.underlying9
  a9 := Tryd.isAgg9
  z9 := Tryd.sizeOf9
  v9 := Tryd.zeroValue9
  t22 := Tryd.underlying22
  a22 := Tryd.isAgg22
  z22 := Tryd.sizeOf22
  v22 := Tryd.zeroValue22
  t25 := Tryd.underlying147
  a25 := Tryd.isAgg147
  z25 := Tryd.sizeOf147
  v25 := Tryd.zeroValue147
  t39 := Tryd.underlying151
  a39 := Tryd.isAgg151
  z39 := Tryd.sizeOf151
  v39 := Tryd.zeroValue151
  t45 := Tryd.underlying153
  a45 := Tryd.isAgg153
  z45 := Tryd.sizeOf153
  v45 := Tryd.zeroValue153
  t46 := Tryd.underlying154
  a46 := Tryd.isAgg154
  z46 := Tryd.sizeOf154
  v46 := Tryd.zeroValue154
  t50 := Tryd.underlying98
  a50 := Tryd.isAgg98
  z50 := Tryd.sizeOf98
  v50 := Tryd.zeroValue98
  t53 := Tryd.underlying65
  a53 := Tryd.isAgg65
  z53 := Tryd.sizeOf65
  v53 := Tryd.zeroValue65
  t55 := Tryd.underlying161
  a55 := Tryd.isAgg161
  z55 := Tryd.sizeOf161
  v55 := Tryd.zeroValue161
  t66 := Tryd.underlying162
  a66 := Tryd.isAgg162
  z66 := Tryd.sizeOf162
  v66 := Tryd.zeroValue162
  t70 := Tryd.underlying166
  a70 := Tryd.isAgg166
  z70 := Tryd.sizeOf166
  v70 := Tryd.zeroValue166
  t76 := Tryd.underlying168
  a76 := Tryd.isAgg168
  z76 := Tryd.sizeOf168
  v76 := Tryd.zeroValue168
  t77 := Tryd.underlying169
  a77 := Tryd.isAgg169
  z77 := Tryd.sizeOf169
  v77 := Tryd.zeroValue169 }
end Go.Proofs
namespace Go.Proofs.YtepjkmoipjeghaaDoor
open Go Go.Sx Go.RowKit Go.Sort Go.Shelf
variable [Trk]
/-- Draws are counted on. -/
@[reducible] def trkT : Trk := ⟨True⟩
def encR (r : Report) : List Value := [.int .i64 r.id, .int .i64 r.source, .int .i64 r.account, .int .i64 r.made, .int .i64 r.about, .int .u8 r.kind, .int .i64 r.cents, .int .i64 r.of_]
def InR (r : Report) : Prop := InK .i64 r.id ∧ InK .i64 r.source ∧ InK .i64 r.account ∧ InK .i64 r.made ∧ InK .i64 r.about ∧ InK .u8 r.kind ∧ InK .i64 r.cents ∧ InK .i64 r.of_
theorem chunks_rep {M : List Nat} {w : World} : ∀ {cs : List Value} {xs : List Report}, Chunks ReportE M w cs xs ↔ cs = xs.flatMap encR ∧ ∀ r ∈ xs, InR r
  | cs, [] => by
    constructor
    · intro h; exact ⟨h, fun _ h => by cases h⟩
    · rintro ⟨h, _⟩; exact h
  | cs, x :: xs => by
    constructor
    · rintro ⟨c, rest, he, hR, hr⟩
      obtain ⟨rfl, h0, h1, h2, h3, h4, h5, h6, h7⟩ := ReportE_R.1 hR
      obtain ⟨h8, h9⟩ := chunks_rep.1 hr
      refine ⟨by rw [he, h8]; rfl, fun r hr => ?_⟩
      rcases List.mem_cons.1 hr with rfl | hr
      · exact ⟨h0, h1, h2, h3, h4, h5, h6, h7⟩
      · exact h9 r hr
    · rintro ⟨he, hin⟩
      obtain ⟨h0, h1, h2, h3, h4, h5, h6, h7⟩ := hin x (List.mem_cons_self ..)
      exact ⟨encR x, xs.flatMap encR, by rw [he]; rfl, ReportE_R.2 ⟨rfl, h0, h1, h2, h3, h4, h5, h6, h7⟩, chunks_rep.2 ⟨rfl, fun r hr => hin r (List.mem_cons_of_mem _ hr)⟩⟩
theorem flat_get {α : Type} (enc : α → List Value) (h8 : ∀ x, (enc x).length = 8) : ∀ (xs : List α) (t : Nat), (xs.flatMap enc)[t]? = (xs[t / 8]?).bind fun x => (enc x)[t % 8]?
  | [], t => by simp
  | x :: xs, t => by
    rw [List.flatMap_cons]
    rcases Nat.lt_or_ge t 8 with h | h
    · rw [List.getElem?_append_left (by rw [h8]; exact h), show t / 8 = 0 by omega, show t % 8 = t by omega]; rfl
    · rw [List.getElem?_append_right (by rw [h8]; exact h), h8, flat_get enc h8 xs (t - 8), show t / 8 = (t - 8) / 8 + 1 by omega, show t % 8 = (t - 8) % 8 by omega]; rfl
theorem flatK_list {α : Type} [Inhabited α] (enc : α → List Value) (h8 : ∀ x, (enc x).length = 8) (d : Array α) : (flatK enc 8 d).toList = d.toList.flatMap enc := by
  refine List.ext_getElem? fun t => ?_
  rw [flat_get enc h8]
  unfold flatK
  rcases Nat.lt_or_ge t (d.size * 8) with h | h
  · have h1 : t / 8 < d.size := by omega
    have h2 : t % 8 < 8 := by omega
    simp only [Array.getElem?_toList, Array.getElem?_map, Array.getElem?_range, h, Array.getElem?_eq_getElem h1]
    have h3 : t % 8 < (enc d[t / 8]).length := by rw [h8]; exact h2
    simp [h, h1, getElem!_pos, h3]
  · have h1 : d.size ≤ t / 8 := by omega
    simp only [Array.getElem?_toList, Array.getElem?_eq_none h1, Option.bind_none]
    simp [h]
theorem put_takeI {ys : List Value} {cur : Array Value} (h : ys.length ≤ cur.size) : (putCells id 0 ys.toArray cur).toList.take ys.length = ys := by
  apply List.ext_getElem?
  intro i
  rw [List.getElem?_take]
  split
  · rename_i hi
    have hc : cur[i]? = some cur[i] := Array.getElem?_eq_getElem (by omega)
    simp only [putCells, Array.getElem?_toList, Array.getElem?_mapIdx, hc, Option.map_some]
    rw [if_pos ⟨by omega, by simpa using hi⟩]
    simp [hi]
  · rename_i hi
    rw [List.getElem?_eq_none (by omega)]
theorem kp_sortK {α : Type} [Inhabited α] {enc : α → List Value} {k : Nat} {w : World} {g n : Nat} {d : Array α} {os : Array Obj} : Kp [g] w (sortWorldK enc k w g 0 n d os) := by
  refine ⟨rfl, rfl, rfl, by simp [sortWorldK, putRowK], fun j hj hm => ?_, fun _ => show w.drawn ≤ w.drawn + n from Nat.le_add_right _ _⟩
  have hne : ¬ g = j := fun e => hm (by simp [e])
  unfold sortWorldK putRowK
  rw [heap_grow_old _ _ (by simpa using hj)]
  show (w.heap.modify g (onCells (putCells id 0 (flatK enc k d))))[j]? = _
  rw [Array.getElem?_modify, if_neg hne]
/-- What sorting asks of the function that holds reports against each other. -/
def SortOk (x : List Report) (cmp : Report → Report → Option Int) (cf : Report → Report → Int) : Prop :=
  (∀ a b, a ∈ x → b ∈ x → cmp a b = some (cf a b)) ∧ SWO (ltOf fun a b : { r : Report // r ∈ x } => cf a.1 b.1) ∧ ∀ a b, a ∈ x → b ∈ x → ¬ cf a b < 0 → ¬ cf b a < 0 → a = b
open Classical in
noncomputable def P.slices_SortFunc_93 (x : List Report) (cmp : Report → Report → Option Int) : Option (List Report) :=
  if h : x.length < 4611686018427387904 ∧ ∃ cf, SortOk x cmp cf then some (x.mergeSort fun a b => !decide (h.2.choose b a < 0)) else none
@[ext] structure ElR (x : List Report) where
  r : Report
  mem : r ∈ x
  inn : InR r
def ElR.e {x : List Report} (a : ElR x) : List Value := encR a.r
theorem C_slices_SortFunc_93 {M : List Nat} {w : World} {v_x : Value} (hM : MLt M w) (_ : ∀ b ∈ ob v_x, b ∉ M) {x : List Report} (p_x : Own ReportE 61 0 M w v_x x) {v_cmp : Value} {cmp : Report → Report → Option Int}
    (hf : ∀ (x0 x1 : Report) (r : Int) (w1 : World), @Kp trkT (ob v_x) w w1 → InK .i64 x0.id → InK .i64 x0.source → InK .i64 x0.account → InK .i64 x0.made → InK .i64 x0.about → InK .u8 x0.kind → InK .i64 x0.cents → InK .i64 x0.of_ → InK .i64 x1.id → InK .i64 x1.source → InK .i64 x1.account → InK .i64 x1.made → InK .i64 x1.about → InK .u8 x1.kind → InK .i64 x1.cents → InK .i64 x1.of_ → cmp x0 x1 = some r →
      CallsV Tryd.prog v_cmp [.agg (List.toArray [.int .i64 x0.id, .int .i64 x0.source, .int .i64 x0.account, .int .i64 x0.made, .int .i64 x0.about, .int .u8 x0.kind, .int .i64 x0.cents, .int .i64 x0.of_]), .agg (List.toArray [.int .i64 x1.id, .int .i64 x1.source, .int .i64 x1.account, .int .i64 x1.made, .int .i64 x1.about, .int .u8 x1.kind, .int .i64 x1.cents, .int .i64 x1.of_])] w1 fun e w2 => e = .returned (Value.int IntKind.i64 r) ∧ InK IntKind.i64 r ∧ @Ext trkT w1 w2)
    {r0 : List Report} (h : P.slices_SortFunc_93 x cmp = some r0) :
    Calls Tryd.prog 93 (List.toArray [v_x, v_cmp]) w fun e w' => e = .returned (Value.tuple #[]) ∧ (Own ReportE 61 0 M w' v_x r0 ∧ (∀ b ∈ ob v_x, b ∈ ob v_x ∨ w.heap.size ≤ b) ∧ Kp (ob v_x) w w') := by
  unfold P.slices_SortFunc_93 at h
  split at h
  · rename_i hok
    have hr := Option.some.inj h
    obtain ⟨hlen, hex⟩ := hok
    have hok := hex.choose_spec
    generalize hex.choose = cf at hr hok
    obtain ⟨hc0, hO, hT⟩ := hok
    have none_ : ∀ a n, v_x = .slice a 0 n → x = [] → Calls Tryd.prog 93 (List.toArray [v_x, v_cmp]) w fun e w' => e = .returned (Value.tuple #[]) ∧ (Own ReportE 61 0 M w' v_x r0 ∧ (∀ b ∈ ob v_x, b ∈ ob v_x ∨ w.heap.size ≤ b) ∧ Kp (ob v_x) w w') := by
      rintro a n rfl rfl
      have hc := AnyF.slices_SortFunc_none (P := Tryd.prog) (ρ := Tryd.laySortFunc_ren) Tryd.laySortFunc a n v_cmp w
      change Calls Tryd.prog 93 _ _ _ at hc
      refine hc.mono ?_
      rintro e w' ⟨rfl, rfl⟩
      subst hr
      exact ⟨rfl, by simpa using p_x, fun b hb => .inl hb, Kp.refl _ _⟩
    have p_x0 := p_x
    rcases p_x with ⟨a, rfl, rfl⟩ | ⟨g, cap, cur, rfl, h1, h2, h3, h4, h5, h6⟩
    · exact none_ a _ rfl rfl
    · by_cases hx : x = []
      · subst hx; exact none_ _ _ rfl rfl
      · have hg := heap_lt h2
        obtain ⟨h7, h8⟩ := chunks_rep.1 h6
        obtain ⟨r1, hr1⟩ := List.exists_mem_of_ne_nil x hx
        letI : Inhabited (ElR x) := ⟨⟨r1, hr1, h8 r1 hr1⟩⟩
        obtain ⟨d, hd⟩ : ∃ d : List (ElR x), d.map ElR.r = x := ⟨x.attach.map fun r => ⟨r.1, r.2, h8 r.1 r.2⟩, by rw [List.map_map]; exact List.attach_map_subtype_val x⟩
        have hdl : d.length = x.length := by have := congrArg List.length hd; simpa using this
        have h8' : ∀ a : ElR x, a.e.length = 8 := fun _ => rfl
        have hfl : d.flatMap ElR.e = x.flatMap encR := by have := congrArg (List.flatMap encR) hd; rw [List.flatMap_map] at this; exact this
        have hH : HoldsK (ElR.e (x := x)) 8 w g 0 d.toArray := fun j hj => by
          have hj' : j < d.length * 8 := by simpa using hj
          have hv : (flatK ElR.e 8 d.toArray).toList = x.flatMap encR := by rw [flatK_list _ h8', ← hfl]
          have hq : cur.toList[j]? = some ((flatK ElR.e 8 d.toArray)[j]!) := by
            have e1 := congrArg (fun l => l[j]?) h7
            simp only [List.getElem?_take, show j < x.length * ReportE.n by show j < x.length * 8; omega, if_true] at e1
            rw [e1, ← hv, Array.getElem?_toList, getElem!_pos (flatK ElR.e 8 d.toArray) j hj, Array.getElem?_eq_getElem hj]
          constructor
          · have : w.cell? ⟨g, 0 + j, none⟩ = cur[j]? := by simp [World.cell?, h2]
            rw [this, ← Array.getElem?_toList, hq]; rfl
          · simp [World.frozen?, h2]
        obtain ⟨gf, cb, rfl, eg, _⟩ := hf r1 r1 (cf r1 r1) w (@Kp.refl trkT _ _) (h8 r1 hr1).1 (h8 r1 hr1).2.1 (h8 r1 hr1).2.2.1 (h8 r1 hr1).2.2.2.1 (h8 r1 hr1).2.2.2.2.1 (h8 r1 hr1).2.2.2.2.2.1 (h8 r1 hr1).2.2.2.2.2.2.1 (h8 r1 hr1).2.2.2.2.2.2.2
          (h8 r1 hr1).1 (h8 r1 hr1).2.1 (h8 r1 hr1).2.2.1 (h8 r1 hr1).2.2.2.1 (h8 r1 hr1).2.2.2.2.1 (h8 r1 hr1).2.2.2.2.2.1 (h8 r1 hr1).2.2.2.2.2.2.1 (h8 r1 hr1).2.2.2.2.2.2.2 (hc0 r1 r1 hr1 hr1)
        have hcmp : CmpLays Tryd.prog gf cb (ElR.e (x := x)) 8 (fun a b => cf a.r b.r) g 0 d.toArray.size w := fun m os dk _ a b => by
          obtain ⟨a, ha, a0, a1, a2, a3, a4, a5, a6, a7⟩ := a
          obtain ⟨b, hb, b0, b1, b2, b3, b4, b5, b6, b7⟩ := b
          obtain ⟨gf', cb', hgc, _, hC⟩ := hf a b (cf a b) (sortWorldK ElR.e 8 w g 0 m dk os) (@Kp.mono trkT _ _ _ _ (@kp_sortK trkT _ _ _ _ _ _ _ _ _) fun c hc => .inl (by simpa [ob] using hc)) a0 a1 a2 a3 a4 a5 a6 a7 b0 b1 b2 b3 b4 b5 b6 b7 (hc0 a b ha hb)
          cases hgc
          refine hC.mono ?_
          rintro e w' ⟨rfl, _, hx⟩
          obtain ⟨q, os', he⟩ := @Ext.grown trkT _ _ hx trivial
          exact ⟨rfl, q, os', he⟩
        have hO' : SWO (ltOf fun a b : ElR x => cf a.r b.r) :=
          ⟨fun a => hO.irrefl ⟨a.r, a.mem⟩, fun a b c => hO.trans ⟨a.r, a.mem⟩ ⟨b.r, b.mem⟩ ⟨c.r, c.mem⟩, fun a b c => hO.ntrans ⟨a.r, a.mem⟩ ⟨b.r, b.mem⟩ ⟨c.r, c.mem⟩⟩
        have hc := AnyQ.slices_SortFunc_total Tryd.laySortFunc 8 Tryd.isAgg61 Tryd.sizeOf61 (ElR.e (x := x)) h8' (fun a v hv => by
          simp [ElR.e, encR] at hv
          rcases hv with rfl | rfl | rfl | rfl | rfl | rfl | rfl | rfl <;> rfl) (fun a b => cf a.r b.r) hO' gf cb g 0 (cap + 1) d.toArray w eg hcmp hH hg (by simpa [hdl] using hlen)
          (fun a b h1 h2 => ElR.ext (hT a.r b.r a.mem b.mem (by simpa [ltOf] using h1) (by simpa [ltOf] using h2)))
        change Calls Tryd.prog 93 _ _ _ at hc
        rw [show d.toArray.size = x.length by simp [hdl]] at hc
        refine hc.mono ?_
        rintro e w' ⟨rfl, n, os, rfl⟩
        obtain ⟨ys, hys⟩ : ∃ ys, ys = d.mergeSort fun a b : ElR x => !(ltOf fun a b : ElR x => cf a.r b.r) b a := ⟨_, rfl⟩
        have hys' : ys.map ElR.r = r0 := by
          have h9 := List.map_mergeSort (r := fun a b : ElR x => !(ltOf fun a b : ElR x => cf a.r b.r) b a) (s := fun a b => !decide (cf b a < 0)) (f := ElR.r) (l := d) fun a _ b _ => rfl
          rw [hd, hr] at h9
          rw [hys]; exact h9
        have hyl : ys.length = x.length := by rw [hys, List.length_mergeSort, hdl]
        have hrl : r0.length = x.length := by rw [← hys', List.length_map, hyl]
        have hW : (d.toArray.toList.mergeSort fun a b : ElR x => !(ltOf fun a b : ElR x => cf a.r b.r) b a).toArray = ys.toArray := by rw [hys]
        rw [hW]
        have hkp : Kp [g] w (sortWorldK (ElR.e (x := x)) 8 w g 0 n ys.toArray os) := kp_sortK
        have hin : ∀ r ∈ r0, InR r := fun r hr' => by
          rw [← hys'] at hr'
          obtain ⟨a, _, rfl⟩ := List.mem_map.1 hr'
          exact a.inn
        have hfl2 : (flatK (ElR.e (x := x)) 8 ys.toArray).toList = r0.flatMap encR := by have h9 := congrArg (List.flatMap encR) hys'; rw [List.flatMap_map] at h9; rw [flatK_list _ h8']; exact h9
        have hfs : (flatK (ElR.e (x := x)) 8 ys.toArray).size = x.length * 8 := by simp [hyl]
        refine ⟨rfl, .inr ⟨g, cap, putCells id 0 (flatK (ElR.e (x := x)) 8 ys.toArray) cur, by rw [hrl], Nat.zero_le _, ?_, by rw [hrl]; exact h3, h4, ?_, ?_⟩, fun b hb => .inl hb, hkp.mono fun b hb => .inl (by simpa [ob] using hb)⟩
        · unfold sortWorldK putRowK
          rw [heap_grow_old _ _ (by simpa using hg)]
          show (w.heap.modify g (onCells (putCells id 0 (flatK ElR.e 8 ys.toArray))))[g]? = _
          rw [Array.getElem?_modify, if_pos rfl, h2]; rfl
        · rw [← h5]; simp [putCells]
        · refine chunks_rep.2 ⟨?_, hin⟩
          have h9 := put_takeI (ys := (flatK (ElR.e (x := x)) 8 ys.toArray).toList) (cur := cur) (by
            rw [Array.length_toList, hfs, h5]
            show x.length * 8 ≤ (cap + 1) * 8
            omega)
          rw [show (flatK (ElR.e (x := x)) 8 ys.toArray).toList.toArray = flatK (ElR.e (x := x)) 8 ys.toArray by simp, Array.length_toList, hfs] at h9
          show (putCells id 0 (flatK ElR.e 8 ys.toArray) cur).toList.take (r0.length * 8) = _
          rw [hrl, h9, hfl2]
  · cases h
end Go.Proofs.YtepjkmoipjeghaaDoor
set_option maxRecDepth 20000
namespace Go.Proofs.YtepjkmoipjeghaaDoor
open Go Go.Sx Go.RowKit
variable [Trk]
noncomputable def P.account_ordered_74 (l : (List Report)) (by_ : (List Nat)) : Option (List Report) :=
  Option.bind (P.slices_SortFunc_93 l (fun x0_ x1_ => P.account_ordered_api_Report_in1 x0_ x1_ by_)) fun l7 => some l7
theorem C_account_ordered_74 {M : List Nat} {w : World} {v_l : Value} (hM : MLt M w) (hd : ∀ b ∈ ob v_l, b ∉ M) {l : (List Report)} (p_l : Own ReportE 61 0 M w v_l l) {by_ : (List Nat)} {v_by__0 : Value} (f_by__0 : RdS fnE (ob v_l ++ M) w v_by__0 by_) {r0 : (List Report)} (h : P.account_ordered_74 l by_ = some r0) :
    Calls Tryd.prog 74 (List.toArray [v_l, v_by__0]) w fun e w' => ∃ v0_0 : Value, e = .returned (v0_0) ∧ (Own ReportE 61 0 M w' v0_0 r0 ∧ (∀ b ∈ ob v0_0, b ∈ ob v_l ∨ w.heap.size ≤ b) ∧ Kp (ob v_l) w w') := by
  have hI := Hp.startOwn hM hd p_l
  refine calls_cw Tryd.func74 rfl Tryd.ntmps74 rfl ?_
  refine cw_seq ?_
  refine cw_regF ?_
  refine y_box hI rfl (RdS.cells1 f_by__0) rfl ?_
  intro b1 w2 hI3 x4
  have hC6 := hI3.freezeRow 0 rfl
  have hI5 := hI3.erase 0
  refine s_as rfl rfl ?_
  refine Reg.nil ?_
  refine cw_seq ?_
  refine cw_regF ?_
  refine s_mv rfl rfl ?_
  refine s_mf rfl rfl ?_
  obtain ⟨l7, hz8, h⟩ := bnd h
  refine s_call rfl Tryd.call93 rfl ?_
  have la := Hp.lendA (σ := [ownR (ob v_l) ReportE 61 v_l l]) (M := M) (w := w2) 0 rfl
  have q1 := hI5.lendM 0 rfl
  have q2 : @RdS trkT Nat (@fnE trkT) _ w2 v_by__0 by_ := (f_by__0.adv hI5.adv).adv la
  have q3 := hC6.adv la
  refine (C_slices_SortFunc_93 (hI5.erase 0).mlt (hI5.apart 0 rfl) (hI5.lendOwn 0 rfl) (fun a0 a1 r w9 e9 f0 f1 f2 f3 f4 f5 f6 f7 f8 f9 f10 f11 f12 f13 f14 f15 hr => by
    letI := trkT
    exact CallsV.ofL Tryd.call94 rfl (C_account_ordered_api_Report_in1 (q1.ext e9) f0 f1 f2 f3 f4 f5 f6 f7 f8 f9 f10 f11 f12 f13 f14 f15 (q2.adv (Adv.lent e9)) (q3.adv (Adv.lent e9)) hr)) hz8).mono ?_
  rintro _ w9 ⟨rfl, hf11⟩
  refine ⟨_, rfl, ?_⟩
  have hI12 := hI5.took 0 rfl hf11
  refine Reg.nil ?_
  refine cw_seq ?_
  refine cw_regF ?_
  refine s_mv rfl rfl ?_
  refine s_as rfl rfl ?_
  refine Reg.nil ?_
  refine cw_ret ?_
  obtain rfl := Option.some.inj h
  refine fin1 Tryd.results74 rfl ?_
  exact ⟨_, rfl, (hI12.ownBack 0 rfl)⟩
end Go.Proofs.YtepjkmoipjeghaaDoor
