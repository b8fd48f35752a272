/-
  Part 3 of the texts that the statement's proof stands on: what memory holds, how code is walked, what the functions reckon. In the order in which they build.
-/
import Derived.Test.YtecmlmngcnionaaProg
import Derived.Test.YtecmlmngcnionaaSe2
set_option linter.unusedVariables false
set_option maxRecDepth 20000
namespace Go.Proofs.Ytecmlmngcnionaa
open Go Go.Sx Go.RowKit
noncomputable def P.ref06_ints (a : (List Int)) (b : (List Int)) : Option Bool :=
 cond (!decide ((a.length : Int) = (b.length : Int))) (some false) (Option.bind (loopM (S := Int) (R := (Unit) ⊕ (Bool)) (fun x2 => cond (decide (x2 < (a.length : Int))) (Option.bind (ixo a x2) fun y4 => Option.bind (ixo b x2) fun y11 => cond (!decide (y4 = y11)) (some (.inr (.inr false))) (Option.bind (chk .i64 (x2 + 1)) fun n22 => some (.inl n22))) (some (.inr (.inl ())))) 0) fun j23 => Sum.elim (fun _ => some true) (fun r24 => some r24)  j23)
noncomputable def P.slices_Clone_58 (s : (List Int)) : Option (List Int) :=
 nilq s fun b1 => cond b1 (some []) (Option.bind (appo 8 ([] : List Int) s) fun l7 => some l7)
theorem C_slices_Clone_58 {M : List Nat} {w : World} (hM : MLt M w) {s : (List Int)} {v_s_0 : Value} (f_s_0 : RdS (intE .i64) M w v_s_0 s) {r0 : (List Int)} (h : P.slices_Clone_58 s = some r0) :
  Calls Try.prog 58 (List.toArray [v_s_0]) w fun e w' => ∃ v0_0 : Value, e = .returned (v0_0) ∧ (Own (intE .i64) 3 0 M w' v0_0 r0 ∧ ∀ b ∈ ob v0_0, w.heap.size ≤ b) ∧ Ext w w' := by
 have hI := Hp.start (Mu := []) hM
 refine calls_cw Try.func58 rfl Try.ntmps58 rfl ?_
 refine cw_seq (cw_regF ?_)
 refine s_as rfl rfl ?_
 refine Reg.nil ?_
 refine cw_seq (cw_seq (cw_regF ?_))
 refine s_mv rfl rfl ?_
 refine s_eqN f_s_0 rfl rfl Try.underlying26 rfl ?_
 intro b1 kb1
 replace h := nilq_out h kb1
 refine Reg.nil ?_
 refine cw_cond rfl (fun hc2 => ?_) (fun hc2 => ?_)
 ·replace h := cdT hc2 h
  refine cw_seq (cw_regF ?_)
  refine s_as rfl rfl ?_
  refine Reg.nil ?_
  refine cw_ret ?_
  obtain rfl := Option.some.inj h
  refine fin1 Try.results58 rfl ?_
  exact ⟨_, rfl, ⟨Own.nil _ _ _ _ _, fun _ hb => by cases hb⟩, hI.kp⟩
 ·replace h := cdF hc2 h
  refine cw_skip (cw_seq (cw_regF ?_))
  refine y_bs (E := (intE .i64)) (xs := []) sl26 hI rfl rfl Cls.nil Chs.nil rfl rfl ?_
  intro v3 w4 hI5 x6
  refine s_mv rfl rfl ?_
  obtain ⟨l7, hl7, h⟩ := bnd h
  obtain ⟨hbl7, el7⟩ := appo_out hl7
  refine y_app 0 sl26 hI5 rfl rfl rfl (f_s_0.adv hI5.adv) hbl7 rfl ?_
  rw [← el7]
  intro v8 w9 hI10 x11
  refine s_as rfl rfl ?_
  refine Reg.nil ?_
  refine cw_ret ?_
  obtain rfl := Option.some.inj h
  refine fin1 Try.results58 rfl ?_
  exact ⟨_, rfl, (hI10.ownOut 0 rfl), hI10.kp⟩
noncomputable def P.slices_ContainsFunc_56 (s : (List Int)) (f : Int → Option Bool) : Option Bool :=
 Option.bind (P.slices_IndexFunc_67 s f) fun z1 => some (decide (0 ≤ z1))
theorem C_slices_ContainsFunc_56 {M : List Nat} {w : World} (hM : MLt M w) {s : (List Int)} {v_s_0 : Value} (f_s_0 : RdS (intE .i64) M w v_s_0 s) {v_f : Value} {f : Int → Option Bool} (f_f : ∀ (x0 : Int) (r : Bool) (w1 : World), Kp [] w w1 → InK .i64 x0 → f x0 = some r → CallsV Try.prog v_f [Value.int .i64 x0] w1 fun e w2 => e = .returned (Value.bool r) ∧ Ext w1 w2) {r0 : Bool} (h : P.slices_ContainsFunc_56 s f = some r0) :
  Calls Try.prog 56 (List.toArray [v_s_0, v_f]) w fun e w' => e = .returned (Value.bool r0) ∧ Ext w w' := by
 have hI := Hp.start (Mu := []) hM
 refine calls_cw Try.func56 rfl Try.ntmps56 rfl ?_
 refine cw_seq (cw_regF ?_)
 refine s_as rfl rfl ?_
 refine Reg.nil ?_
 refine cw_seq (cw_regF ?_)
 refine s_mv rfl rfl ?_
 refine s_mv rfl rfl ?_
 obtain ⟨z1, hz2, h⟩ := bnd h
 refine s_call rfl Try.call67 rfl ?_
 refine (C_slices_IndexFunc_67 hI.mlt f_s_0 (fun a0 r w9 e9 f0 hr => f_f a0 r w9 (hI.kp.trans (Ext.kp e9)) f0 hr) hz2).mono ?_
 rintro _ w3 ⟨rfl, r5, e4⟩
 refine ⟨_, rfl, ?_⟩
 have hI6 := hI.ext e4
 refine s_geq rfl rfl rfl ?_
 refine s_as rfl rfl ?_
 refine Reg.nil ?_
 refine cw_ret ?_
 obtain rfl := Option.some.inj h
 refine fin1 Try.results56 rfl ?_
 exact ⟨rfl, hI6.kp⟩
noncomputable def P.score_within_in1 (n : Int) (lo_c : Int) (hi_c : Int) : Option Bool :=
 Option.bind (cond (decide (n < lo_c)) (some true) (some (decide (hi_c < n)))) fun x2 => some x2
theorem C_score_within_in1 {M : List Nat} {w : World} (hM : MLt M w) {n : Int} (f_n_0 : InK .i64 n) {lo_c : Int} (f_lo_c_0 : InK .i64 lo_c) {b_lo_c : Nat} (c_lo_c : RdC M w b_lo_c 0 [Value.int .i64 lo_c]) {hi_c : Int} (f_hi_c_0 : InK .i64 hi_c) {b_hi_c : Nat} (c_hi_c : RdC M w b_hi_c 0 [Value.int .i64 hi_c]) {r0 : Bool} (h : P.score_within_in1 n lo_c hi_c = some r0) :
  Calls Try.prog 57 (List.toArray [Value.int .i64 n, Value.pointer (some ⟨b_lo_c, 0, none⟩), Value.pointer (some ⟨b_hi_c, 0, none⟩)]) w fun e w' => e = .returned (Value.bool r0) ∧ Ext w w' := by
 have hI := Hp.start (Mu := []) hM
 refine calls_cw Try.func57 rfl Try.ntmps57 rfl ?_
 refine cw_seq (cw_regF ?_)
 refine s_as rfl rfl ?_
 refine Reg.nil ?_
 obtain ⟨j1, h2, h⟩ := bnd h
 refine cw_sub (L := [(0, _), (1, _), (2, _)]) (Sub.cons rfl (Sub.cons rfl (Sub.cons rfl (Sub.nil _)))) ?_
 refine cw_seqD 3 (ι := Bool) (fun x3 => [(4, Value.bool x3)]) (fun x3 => fun w4 => w = w4 ∧ x3 = j1) ?_ ?_
 ·skip
  refine cw_regF ?_
  refine s_mv rfl rfl ?_
  refine s_ld rfl (c_lo_c.cells.at 0 rfl) Try.isAgg3 rfl ?_
  refine s_lss rfl rfl rfl ?_
  refine s_mv rfl rfl ?_
  refine Reg.gsplit (t := 8) rfl (fun hg7 => ?_) (fun hg7 => ?_)
  ·replace h2 := cdT hg7 h2
   refine Reg.pass rfl rfl rfl rfl ?_
   refine Reg.pass rfl rfl rfl rfl ?_
   refine Reg.pass rfl rfl rfl rfl ?_
   refine s_pkT rfl rfl rfl ?_
   refine s_as rfl rfl ?_
   refine Reg.nil ?_
   obtain rfl := Option.some.inj h2
   refine ⟨rfl, true, ⟨rfl, rfl⟩, Sub.cons rfl (Sub.nil _)⟩
  ·replace h2 := cdF hg7 h2
   refine Reg.take rfl rfl ?_
   refine s_mv rfl rfl ?_
   refine Reg.take rfl rfl ?_
   refine s_ld rfl (c_hi_c.cells.at 0 rfl) Try.isAgg3 rfl ?_
   refine Reg.take rfl rfl ?_
   refine s_gtr rfl rfl rfl ?_
   refine s_pkF rfl rfl rfl ?_
   refine s_as rfl rfl ?_
   refine Reg.nil ?_
   obtain rfl := Option.some.inj h2
   refine ⟨rfl, decide (hi_c < n), ⟨rfl, rfl⟩, Sub.cons rfl (Sub.nil _)⟩
 ·skip
  rintro x3 _ ⟨rfl, rfl⟩
  refine cw_ret ?_
  obtain rfl := Option.some.inj h
  refine fin1 Try.results57 rfl ?_
  exact ⟨rfl, hI.kp⟩
noncomputable def P.score_within (lo : Int) (hi : Int) (all : (List Int)) : Option Bool :=
 Option.bind (P.slices_ContainsFunc_56 all (fun x0_ => P.score_within_in1 x0_ lo hi)) fun z13 => some (!z13)
theorem C_score_within {M : List Nat} {w : World} (hM : MLt M w) {lo : Int} (f_lo_0 : InK .i64 lo) {hi : Int} (f_hi_0 : InK .i64 hi) {all : (List Int)} {v_all_0 : Value} (f_all_0 : RdS (intE .i64) M w v_all_0 all) {r0 : Bool} (h : P.score_within lo hi all = some r0) :
  Calls Try.prog 43 (List.toArray [Value.int .i64 lo, Value.int .i64 hi, v_all_0]) w fun e w' => e = .returned (Value.bool r0) ∧ Ext w w' := by
 have hI := Hp.start (Mu := []) hM
 refine calls_cw Try.func43 rfl Try.ntmps43 rfl ?_
 refine cw_seq (cw_regF ?_)
 refine y_box hI rfl rfl rfl ?_
 intro b1 w2 hI3 x4
 have hC6 := hI3.freezeRow 0 rfl
 have hI5 := hI3.erase 0
 refine y_box hI5 rfl rfl rfl ?_
 intro b7 w8 hI9 x10
 have hC12 := hI9.freezeRow 0 rfl
 have hI11 := hI9.erase 0
 refine s_as rfl rfl ?_
 refine Reg.nil ?_
 refine cw_seq (cw_regF ?_)
 refine s_mv rfl rfl ?_
 refine s_mf rfl rfl ?_
 obtain ⟨z13, hz14, h⟩ := bnd h
 refine s_call rfl Try.call56 rfl ?_
 refine (C_slices_ContainsFunc_56 hI11.mlt (f_all_0.adv hI11.adv) (fun a0 r w9 e9 f0 hr => CallsV.ofL Try.call57 rfl (C_score_within_in1 (hI11.mlt.ext e9) f0 f_lo_0 ((hC6.adv (x10.trans (Hp.eraseA (σ := [rowR 3 b7 [Value.int .i64 hi]]) 0))).adv (Adv.of_ext e9)) f_hi_0 (hC12.adv (Adv.of_ext e9)) hr)) hz14).mono ?_
 rintro _ w15 ⟨rfl, e16⟩
 refine ⟨_, rfl, ?_⟩
 have hI17 := hI11.ext e16
 refine s_not rfl rfl ?_
 refine s_as rfl rfl ?_
 refine Reg.nil ?_
 refine cw_ret ?_
 obtain rfl := Option.some.inj h
 refine fin1 Try.results43 rfl ?_
 exact ⟨rfl, hI17.kp⟩
noncomputable def P.score_counts (all : (List Int)) : Option Bool :=
 Option.bind (P.score_within (-1000000) 1000000 all) fun z1 => some z1
theorem C_score_counts {M : List Nat} {w : World} (hM : MLt M w) {all : (List Int)} {v_all_0 : Value} (f_all_0 : RdS (intE .i64) M w v_all_0 all) {r0 : Bool} (h : P.score_counts all = some r0) :
  Calls Try.prog 53 (List.toArray [v_all_0]) w fun e w' => e = .returned (Value.bool r0) ∧ Ext w w' := by
 have hI := Hp.start (Mu := []) hM
 refine calls_cw Try.func53 rfl Try.ntmps53 rfl ?_
 refine cw_seq (cw_regF ?_)
 refine s_as rfl rfl ?_
 refine Reg.nil ?_
 refine cw_seq (cw_regF ?_)
 refine s_mv rfl rfl ?_
 obtain ⟨z1, hz2, h⟩ := bnd h
 refine s_call rfl Try.call43 rfl ?_
 refine (C_score_within hI.mlt (by decide) (by decide) f_all_0 hz2).mono ?_
 rintro _ w3 ⟨rfl, e4⟩
 refine ⟨_, rfl, ?_⟩
 have hI5 := hI.ext e4
 refine s_as rfl rfl ?_
 refine Reg.nil ?_
 refine cw_ret ?_
 obtain rfl := Option.some.inj h
 refine fin1 Try.results53 rfl ?_
 exact ⟨rfl, hI5.kp⟩
noncomputable def P.slices_BinarySearch_129 (x : (List Int)) (target : Int) : Option (Int × Bool) :=
 Option.bind (loopM (S := Int × Int) (R := (Int)) (fun (x1, x2) => cond (decide (x1 < x2)) (Option.bind (Option.bind (chk .i64 (x1 + x2)) fun n4 => Option.bind (chk .u64 n4) fun n5 => Option.bind (shrO n5 1 IntKind.u64.bits) fun n6 => Option.bind (chk .i64 n6) fun n7 => Option.bind (ixo x n7) fun y8 => Option.bind (P.cmp_Less_102 y8 target) fun z15 => Option.bind (cond z15 (Option.bind (chk .i64 (n7 + 1)) fun n21 => some (n21, x2)) (some (x1, n7))) fun (x22, x23) => some (x22, x23)) fun (x24, x25) => some (.inl (x24, x25))) (some (.inr x1))) (0, (x.length : Int))) fun x26 => Option.bind (cond (decide (x26 < (x.length : Int))) (Option.bind (ixo x x26) fun y28 => cond (decide (y28 = target)) (some (x26, true)) (Option.bind (ixo x x26) fun y36 => Option.bind (P.slices_isNaN_133 y36) fun z43 => cond z43 (Option.bind (P.slices_isNaN_133 target) fun z49 => some (x26, z49)) (some (x26, false)))) (some (x26, false))) fun (x54, x55) => some (x54, x55)
theorem C_slices_BinarySearch_129 {M : List Nat} {w : World} (hM : MLt M w) {x : (List Int)} {v_x_0 : Value} (f_x_0 : RdS (intE .i64) M w v_x_0 x) {target : Int} (f_target_0 : InK .i64 target) {r0 : Int} {r1 : Bool} (h : P.slices_BinarySearch_129 x target = some (r0, r1)) :
  Calls Try.prog 129 (List.toArray [v_x_0, Value.int .i64 target]) w fun e w' => e = .returned (Value.tuple (List.toArray [Value.int .i64 r0, Value.bool r1])) ∧ InK .i64 r0 ∧ Ext w w' := by
 have hI := Hp.start (Mu := []) hM
 refine calls_cw Try.func129 rfl Try.ntmps129 rfl ?_
 refine cw_seq (cw_regF ?_)
 refine s_as rfl rfl ?_
 refine s_as rfl rfl ?_
 refine Reg.nil ?_
 refine cw_seq (cw_regF ?_)
 refine s_mv rfl rfl ?_
 refine s_len rfl f_x_0 Try.underlying26 rfl ?_
 refine s_as rfl rfl ?_
 refine Reg.nil ?_
 refine cw_seq (cw_regF ?_)
 refine s_mv rfl rfl ?_
 refine s_as rfl rfl ?_
 refine s_as rfl rfl ?_
 refine Reg.nil ?_
 obtain ⟨j1, h2, h⟩ := bnd h
 refine cw_sub (L := [(7, _), (8, _), (0, _), (1, _), (6, _)]) (Sub.cons rfl (Sub.cons rfl (Sub.cons rfl (Sub.cons rfl (Sub.cons rfl (Sub.nil _)))))) ?_
 refine cw_seqD 2 (ι := Int) (fun x3 => [(7, Value.int .i64 x3)]) (fun x3 => fun w5 => Hp w [] M [] w5 ∧ Adv (mm [] M) (mm [] M) w w5 ∧ InK .i64 x3 ∧ x3 = j1) ?_ ?_
 ·skip
  refine cw_block ?_
  refine cw_sub (L := [(7, _), (8, _), (0, _), (1, _), (6, _)]) (Sub.cons rfl (Sub.cons rfl (Sub.cons rfl (Sub.cons rfl (Sub.cons rfl (Sub.nil _)))))) ?_
  refine cw_loopM 2 (ι := Int × Int) _ (fun ⟨x8, x10⟩ => [(7, Value.int .i64 x8), (8, Value.int .i64 x10)]) (fun ⟨x8, x10⟩ => (x8, x10)) (fun ⟨x8, x10⟩ => fun w12 => Hp w [] M [] w12 ∧ Adv (mm [] M) (mm [] M) w w12 ∧ InK .i64 x8 ∧ InK .i64 x10) (0, (x.length : Int)) h2 ⟨hI, (Adv.refl _ _), (by decide), (RdS.inK f_x_0)⟩ (Sub.cons rfl (Sub.cons rfl (Sub.cons rfl (Sub.cons rfl (Sub.cons rfl (Sub.nil _)))))) ?_
  rintro ⟨x8, x10⟩ w12 ⟨hI13, hA14, r9, r11⟩ y15 h16 hR17
  refine cw_seq (cw_seq (cw_regF ?_))
  refine s_mv rfl rfl ?_
  refine s_mv rfl rfl ?_
  refine s_lss rfl rfl rfl ?_
  refine Reg.nil ?_
  refine cw_cond rfl (fun hc18 => ?_) (fun hc18 => ?_)
  ·replace h16 := cdT hc18 h16
   refine cw_skip ?_
   obtain ⟨j19, h20, h16⟩ := bnd h16
   refine cw_sub (L := [(7, _), (8, _), (0, _), (1, _), (6, _)]) (Sub.cons rfl (Sub.cons rfl (Sub.cons rfl (Sub.cons rfl (Sub.cons rfl (Sub.nil _)))))) ?_
   refine cw_unitD 2 (ι := Int × Int) (fun ⟨x21, x23⟩ => [(7, Value.int .i64 x21), (8, Value.int .i64 x23)]) (fun ⟨x21, x23⟩ => fun w25 => Hp w [] M [] w25 ∧ Adv (mm [] M) (mm [] M) w12 w25 ∧ InK .i64 x21 ∧ InK .i64 x23 ∧ (x21, x23) = j19) ?_ ?_
   ·skip
    refine cw_block ?_
    refine cw_seq (cw_regF ?_)
    refine s_mv rfl rfl ?_
    refine s_mv rfl rfl ?_
    obtain ⟨n28, hn28, h20⟩ := bnd h20
    replace hn28 := chk_out hn28
    refine p_add rfl rfl rfl hn28 ?_
    obtain ⟨n29, hn29, h20⟩ := bnd h20
    replace hn29 := chk_out hn29
    refine p_cvt rfl Try.underlying3 Try.underlying127 rfl hn29 ?_
    obtain ⟨n30, hn30, h20⟩ := bnd h20
    refine p_shr rfl rfl rfl hn30 ?_
    obtain ⟨n31, hn31, h20⟩ := bnd h20
    replace hn31 := chk_out hn31
    refine p_cvt rfl Try.underlying127 Try.underlying3 rfl hn31 ?_
    refine s_as rfl rfl ?_
    refine Reg.nil ?_
    refine cw_seq (cw_regF ?_)
    refine s_mv rfl rfl ?_
    refine s_mv rfl rfl ?_
    obtain ⟨y32, hy32, h20⟩ := bnd h20
    refine p_ia rfl rfl (f_x_0.adv hI13.adv) hy32 Try.underlying26 Try.sizeOf3 rfl ?_
    intro b33 o34 cs35 hR36 hC37
    obtain ⟨rfl, r38⟩ := hR36
    refine s_ld rfl (hC37.cells.at 0 rfl) Try.isAgg3 rfl ?_
    refine s_mv rfl rfl ?_
    obtain ⟨z39, hz40, h20⟩ := bnd h20
    refine s_call rfl Try.call102 rfl ?_
    refine (C_cmp_Less_102 hI13.mlt r38 f_target_0 hz40).mono ?_
    rintro _ w41 ⟨rfl, e42⟩
    refine ⟨_, rfl, ?_⟩
    have hI43 := hI13.ext e42
    refine Reg.nil ?_
    obtain ⟨j44, h45, h20⟩ := bnd h20
    refine cw_sub (L := [(7, _), (8, _), (9, _), (27, _), (0, _), (1, _), (6, _)]) (Sub.cons rfl (Sub.cons rfl (Sub.cons rfl (Sub.cons rfl (Sub.cons rfl (Sub.cons rfl (Sub.cons rfl (Sub.nil _)))))))) ?_
    refine cw_unitD 4 (ι := Int × Int) (fun ⟨x46, x48⟩ => [(7, Value.int .i64 x46), (8, Value.int .i64 x48)]) (fun ⟨x46, x48⟩ => fun w50 => w41 = w50 ∧ InK .i64 x46 ∧ InK .i64 x48 ∧ (x46, x48) = j44) ?_ ?_
    ·skip
     refine cw_cond rfl (fun hc53 => ?_) (fun hc53 => ?_)
     ·replace h45 := cdT hc53 h45
      refine cw_regF ?_
      refine s_mv rfl rfl ?_
      obtain ⟨n54, hn54, h45⟩ := bnd h45
      replace hn54 := chk_out hn54
      refine p_add rfl rfl rfl hn54 ?_
      refine s_as rfl rfl ?_
      refine Reg.nil ?_
      obtain rfl := Option.some.inj h45
      refine ⟨rfl, (n54, x10), ⟨rfl, hn54.2, r11, rfl⟩, Sub.cons rfl (Sub.cons rfl (Sub.cons rfl (Sub.cons rfl (Sub.cons rfl (Sub.nil _)))))⟩
     ·replace h45 := cdF hc53 h45
      refine cw_regF ?_
      refine s_mv rfl rfl ?_
      refine s_as rfl rfl ?_
      refine Reg.nil ?_
      obtain rfl := Option.some.inj h45
      refine ⟨rfl, (x8, n31), ⟨rfl, r9, hn31.2, rfl⟩, Sub.cons rfl (Sub.cons rfl (Sub.cons rfl (Sub.cons rfl (Sub.cons rfl (Sub.nil _)))))⟩
    ·skip
     rintro ⟨x46, x48⟩ _ ⟨rfl, r47, r49, rfl⟩
     obtain rfl := Option.some.inj h20
     refine ⟨rfl, (x46, x48), ⟨hI43, (Adv.of_ext e42), r47, r49, rfl⟩, Sub.cons rfl (Sub.cons rfl (Sub.cons rfl (Sub.cons rfl (Sub.cons rfl (Sub.nil _)))))⟩
   ·skip
    rintro ⟨x21, x23⟩ w25 ⟨hI26, hA27, r22, r24, rfl⟩
    obtain rfl := Option.some.inj h16
    refine ⟨rfl, (x21, x23), ⟨⟨hI26, hI26.adv, r22, r24⟩, rfl⟩, Sub.cons rfl (Sub.cons rfl (Sub.cons rfl (Sub.cons rfl (Sub.cons rfl (Sub.nil _)))))⟩
  ·replace h16 := cdF hc18 h16
   refine cw_exit ?_
   refine exB_same ?_
   obtain rfl := Option.some.inj h16
   obtain rfl := hR17 _ rfl
   refine ⟨rfl, x8, ⟨hI13, hI13.adv, r9, rfl⟩, Sub.cons rfl (Sub.cons rfl (Sub.cons rfl (Sub.cons rfl (Sub.nil _))))⟩
 ·skip
  rintro x3 w5 ⟨hI6, hA7, r4, rfl⟩
  obtain ⟨j55, h56, h⟩ := bnd h
  refine cw_sub (L := [(0, _), (1, _), (6, _), (7, _)]) (Sub.cons rfl (Sub.cons rfl (Sub.cons rfl (Sub.cons rfl (Sub.nil _))))) ?_
  refine cw_seqD 4 (ι := Int × Bool) (fun ⟨x57, x59⟩ => [(4, Value.int .i64 x57), (5, Value.bool x59)]) (fun ⟨x57, x59⟩ => fun w60 => Hp w [] M [] w60 ∧ Adv (mm [] M) (mm [] M) w5 w60 ∧ InK .i64 x57 ∧ (x57, x59) = j55) ?_ ?_
  ·skip
   refine cw_regF ?_
   refine s_mv rfl rfl ?_
   refine s_mv rfl rfl ?_
   refine s_mv rfl rfl ?_
   refine s_lss rfl rfl rfl ?_
   refine s_mv rfl rfl ?_
   refine Reg.gsplit (t := 35) rfl (fun hg63 => ?_) (fun hg63 => ?_)
   ·replace h56 := cdT hg63 h56
    refine Reg.take rfl rfl ?_
    refine s_mv rfl rfl ?_
    refine Reg.take rfl rfl ?_
    refine s_mv rfl rfl ?_
    refine Reg.take rfl rfl ?_
    obtain ⟨y64, hy64, h56⟩ := bnd h56
    refine p_ia rfl rfl (f_x_0.adv hI6.adv) hy64 Try.underlying26 Try.sizeOf3 rfl ?_
    intro b65 o66 cs67 hR68 hC69
    obtain ⟨rfl, r70⟩ := hR68
    refine Reg.take rfl rfl ?_
    refine s_ld rfl (hC69.cells.at 0 rfl) Try.isAgg3 rfl ?_
    refine Reg.take rfl rfl ?_
    refine s_mv rfl rfl ?_
    refine Reg.take rfl rfl ?_
    refine s_eql rfl rfl rfl ?_
    refine Reg.take rfl rfl ?_
    refine s_mv rfl rfl ?_
    refine Reg.gsplit (t := 42) rfl (fun hg71 => ?_) (fun hg71 => ?_)
    ·replace h56 := cdT hg71 h56
     refine Reg.pass rfl rfl rfl rfl ?_
     refine Reg.pass rfl rfl rfl rfl ?_
     refine Reg.pass rfl rfl rfl rfl ?_
     refine Reg.pass rfl rfl rfl rfl ?_
     refine Reg.pass rfl rfl rfl rfl ?_
     refine Reg.pass rfl rfl rfl rfl ?_
     refine Reg.passU rfl rfl rfl ?_
     refine Reg.passU rfl rfl rfl ?_
     refine Reg.pass rfl rfl rfl rfl ?_
     refine Reg.take rfl rfl ?_
     refine s_pkT rfl rfl rfl ?_
     refine s_pkT rfl rfl rfl ?_
     refine s_as rfl rfl ?_
     refine s_as rfl rfl ?_
     refine Reg.nil ?_
     obtain rfl := Option.some.inj h56
     refine ⟨rfl, (x3, true), ⟨hI6, (Adv.refl _ _), r4, rfl⟩, Sub.cons rfl (Sub.cons rfl (Sub.nil _))⟩
    ·replace h56 := cdF hg71 h56
     refine Reg.take rfl rfl ?_
     refine s_mv rfl rfl ?_
     refine Reg.take rfl rfl ?_
     refine s_mv rfl rfl ?_
     refine Reg.take rfl rfl ?_
     obtain ⟨y72, hy72, h56⟩ := bnd h56
     refine p_ia rfl rfl (f_x_0.adv hI6.adv) hy72 Try.underlying26 Try.sizeOf3 rfl ?_
     intro b73 o74 cs75 hR76 hC77
     obtain ⟨rfl, r78⟩ := hR76
     refine Reg.take rfl rfl ?_
     refine s_ld rfl (hC77.cells.at 0 rfl) Try.isAgg3 rfl ?_
     refine Reg.take rfl rfl ?_
     obtain ⟨z79, hz80, h56⟩ := bnd h56
     refine s_call rfl Try.call133 rfl ?_
     refine (C_slices_isNaN_133 hI6.mlt r78 hz80).mono ?_
     rintro _ w81 ⟨rfl, e82⟩
     refine ⟨_, rfl, ?_⟩
     have hI83 := hI6.ext e82
     refine Reg.take rfl rfl ?_
     refine s_mv rfl rfl ?_
     refine Reg.gsplit (t := 48) rfl (fun hg84 => ?_) (fun hg84 => ?_)
     ·replace h56 := cdT hg84 h56
      refine Reg.take rfl rfl ?_
      refine s_mv rfl rfl ?_
      refine Reg.take rfl rfl ?_
      obtain ⟨z85, hz86, h56⟩ := bnd h56
      refine s_call rfl Try.call133 rfl ?_
      refine (C_slices_isNaN_133 hI83.mlt f_target_0 hz86).mono ?_
      rintro _ w87 ⟨rfl, e88⟩
      refine ⟨_, rfl, ?_⟩
      have hI89 := hI83.ext e88
      refine Reg.take rfl rfl ?_
      refine s_pkT rfl rfl rfl ?_
      refine Reg.take rfl rfl ?_
      refine s_pkF rfl rfl rfl ?_
      refine s_pkT rfl rfl rfl ?_
      refine s_as rfl rfl ?_
      refine s_as rfl rfl ?_
      refine Reg.nil ?_
      obtain rfl := Option.some.inj h56
      refine ⟨rfl, (x3, z85), ⟨hI89, ((Adv.of_ext e82).trans (Adv.of_ext e88)), r4, rfl⟩, Sub.cons rfl (Sub.cons rfl (Sub.nil _))⟩
     ·replace h56 := cdF hg84 h56
      refine Reg.pass rfl rfl rfl rfl ?_
      refine Reg.pass rfl rfl rfl rfl ?_
      refine Reg.take rfl rfl ?_
      refine s_pkF rfl rfl rfl ?_
      refine Reg.take rfl rfl ?_
      refine s_pkF rfl rfl rfl ?_
      refine s_pkT rfl rfl rfl ?_
      refine s_as rfl rfl ?_
      refine s_as rfl rfl ?_
      refine Reg.nil ?_
      obtain rfl := Option.some.inj h56
      refine ⟨rfl, (x3, false), ⟨hI83, (Adv.of_ext e82), r4, rfl⟩, Sub.cons rfl (Sub.cons rfl (Sub.nil _))⟩
   ·replace h56 := cdF hg63 h56
    refine Reg.pass rfl rfl rfl rfl ?_
    refine Reg.pass rfl rfl rfl rfl ?_
    refine Reg.pass rfl rfl rfl rfl ?_
    refine Reg.pass rfl rfl rfl rfl ?_
    refine Reg.pass rfl rfl rfl rfl ?_
    refine Reg.pass rfl rfl rfl rfl ?_
    refine Reg.pass rfl rfl rfl rfl ?_
    refine Reg.passU rfl rfl rfl ?_
    refine Reg.passU rfl rfl rfl ?_
    refine Reg.passU rfl rfl rfl ?_
    refine Reg.passU rfl rfl rfl ?_
    refine Reg.passU rfl rfl rfl ?_
    refine Reg.passU rfl rfl rfl ?_
    refine Reg.passU rfl rfl rfl ?_
    refine Reg.passU rfl rfl rfl ?_
    refine Reg.passU rfl rfl rfl ?_
    refine Reg.pass rfl rfl rfl rfl ?_
    refine s_pkF rfl rfl rfl ?_
    refine s_as rfl rfl ?_
    refine s_as rfl rfl ?_
    refine Reg.nil ?_
    obtain rfl := Option.some.inj h56
    refine ⟨rfl, (x3, false), ⟨hI6, (Adv.refl _ _), r4, rfl⟩, Sub.cons rfl (Sub.cons rfl (Sub.nil _))⟩
  ·skip
   rintro ⟨x57, x59⟩ w60 ⟨hI61, hA62, r58, rfl⟩
   refine cw_ret ?_
   obtain ⟨rfl, rfl⟩ := inj2 h
   refine fin2 Try.results129 rfl rfl ?_
   exact ⟨rfl, r58, hI61.kp⟩
noncomputable def P.score_card_points (c : Card) (x : (List Int)) : Option Int :=
 Option.bind (loopM (S := Int × Int) (R := (Int)) (fun (x7, x8) => cond (decide (x8 < (c.scales.length : Int))) (Option.bind (Option.bind (ixo c.scales x8) fun y10 => Option.bind (ixo x x8) fun y30 => cond (decide (y30 = (-1))) (Option.bind (chk .i64 (x7 + y10.none_)) fun n38 => some n38) (Option.bind (ixo x x8) fun y39 => Option.bind (P.slices_BinarySearch_129 y10.cuts y39) fun (z46, z47) => Option.bind (Option.bind (cond z47 (Option.bind (chk .i64 (z46 + 1)) fun n56 => some n56) (some z46)) fun x57 => some x57) fun x58 => Option.bind (ixo y10.points x58) fun y59 => Option.bind (chk .i64 (x7 + y59)) fun n66 => some n66)) fun x67 => Option.bind (chk .i64 (x8 + 1)) fun n68 => some (.inl (x67, n68))) (some (.inr x7))) (c.base, 0)) fun x69 => some x69
theorem C_score_card_points {M : List Nat} {w : World} (hM : MLt M w) {c : Card} {v_c_2 : Value} (f_c_0 : InK .i64 c.weight) (f_c_1 : InK .i64 c.base) (f_c_2 : RdS ScaleE M w v_c_2 c.scales) {x : (List Int)} {v_x_0 : Value} (f_x_0 : RdS (intE .i64) M w v_x_0 x) {r0 : Int} (h : P.score_card_points c x = some r0) :
  Calls Try.prog 126 (List.toArray [Value.agg (List.toArray [Value.int .i64 c.weight, Value.int .i64 c.base, v_c_2]), v_x_0]) w fun e w' => e = .returned (Value.int .i64 r0) ∧ InK .i64 r0 ∧ Ext w w' := by
 have hI := Hp.start (Mu := []) hM
 refine calls_cw Try.func126 rfl Try.ntmps126 rfl ?_
 refine cw_seq (cw_regF ?_)
 refine y_box hI rfl rfl rfl ?_
 intro b1 w2 hI3 x4
 have hC6 := hI3.freezeRow 0 rfl
 have hI5 := hI3.erase 0
 refine s_as rfl rfl ?_
 refine Reg.nil ?_
 refine cw_seq (cw_regF ?_)
 refine s_fa rfl Try.underlying105 rfl Try.sizeOf3 rfl ?_
 refine s_ld rfl (hC6.cells.at 1 rfl) Try.isAgg3 rfl ?_
 refine s_as rfl rfl ?_
 refine Reg.nil ?_
 refine cw_seq (cw_seq (cw_regF ?_))
 refine s_fa rfl Try.underlying105 rfl Try.sizeOf52 rfl ?_
 refine s_ld rfl (hC6.cells.at 2 rfl) Try.isAgg52 rfl ?_
 refine s_len rfl (f_c_2.adv hI5.adv) Try.underlying52 rfl ?_
 refine s_mv rfl rfl ?_
 refine Reg.nil ?_
 obtain ⟨j7, h8, h⟩ := bnd h
 refine cw_sub (L := [(1, _), (5, _), (13, _), (14, _), (15, _)]) (Sub.cons rfl (Sub.cons rfl (Sub.cons rfl (Sub.cons rfl (Sub.cons rfl (Sub.nil _)))))) ?_
 refine cw_unitD 5 (ι := Int) (fun x9 => [(5, Value.int .i64 x9)]) (fun x9 => fun w11 => Hp w [] M [] w11 ∧ Adv (mm [] M) (mm [] M) w2 w11 ∧ InK .i64 x9 ∧ x9 = j7) ?_ ?_
 ·skip
  refine cw_block ?_
  refine cw_sub (L := [(5, _), (15, _), (1, _), (13, _), (14, _)]) (Sub.cons rfl (Sub.cons rfl (Sub.cons rfl (Sub.cons rfl (Sub.cons rfl (Sub.nil _)))))) ?_
  refine cw_loopM 2 (ι := Int × Int) _ (fun ⟨x14, x16⟩ => [(5, Value.int .i64 x14), (15, Value.int .i64 x16)]) (fun ⟨x14, x16⟩ => (x14, x16)) (fun ⟨x14, x16⟩ => fun w18 => Hp w [] M [] w18 ∧ Adv (mm [] M) (mm [] M) w2 w18 ∧ InK .i64 x14 ∧ InK .i64 x16) (c.base, 0) h8 ⟨hI5, (Adv.refl _ _), f_c_1, (by decide)⟩ (Sub.cons rfl (Sub.cons rfl (Sub.cons rfl (Sub.cons rfl (Sub.cons rfl (Sub.nil _)))))) ?_
  rintro ⟨x14, x16⟩ w18 ⟨hI19, hA20, r15, r17⟩ y21 h22 hR23
  refine cw_seq (cw_regF ?_)
  refine s_lss rfl rfl rfl ?_
  refine Reg.nil ?_
  refine cw_seq ?_
  refine cw_cond rfl (fun hc24 => ?_) (fun hc24 => ?_)
  ·replace h22 := cdT hc24 h22
   refine cw_skip ?_
   obtain ⟨j25, h26, h22⟩ := bnd h22
   refine cw_sub (L := [(5, _), (1, _), (13, _), (14, _), (15, _)]) (Sub.cons rfl (Sub.cons rfl (Sub.cons rfl (Sub.cons rfl (Sub.cons rfl (Sub.nil _)))))) ?_
   refine cw_seqD 1 (ι := Int) (fun x27 => [(5, Value.int .i64 x27)]) (fun x27 => fun w29 => Hp w [] M [] w29 ∧ Adv (mm [] M) (mm [] M) w18 w29 ∧ InK .i64 x27 ∧ x27 = j25) ?_ ?_
   ·skip
    refine cw_block ?_
    refine cw_seq (cw_regF ?_)
    refine s_mv rfl rfl ?_
    obtain ⟨y32, hy32, h26⟩ := bnd h26
    refine p_ia rfl rfl (f_c_2.adv hI19.adv) hy32 Try.underlying52 Try.sizeOf56 rfl ?_
    intro b33 o34 cs35 hR36 hC37
    obtain ⟨v38, v40, rfl, hf39, hf41, r42⟩ := ScaleE_R.1 hR36
    refine s_lda rfl hC37.cells Try.isAgg56 rfl Try.sizeOf56 rfl ?_
    refine y_al hI19 Try.zeroValue56 rfl rfl ?_
    intro b43 w44 hI45 x46
    refine s_as rfl rfl ?_
    refine y_st 0 hI45 rfl rfl rfl rfl Try.sizeOf56 rfl rfl (one1 (RdS.oneC hf39) (one1 (RdS.oneC hf41) (one1 rfl one0))) ?_
    intro w47 hI48 x49
    have hC51 := hI48.freezeRow 0 rfl
    have hI50 := hI48.erase 0
    refine Reg.nil ?_
    refine cw_seq (cw_seq (cw_regF ?_))
    refine s_mv rfl rfl ?_
    refine s_mv rfl rfl ?_
    obtain ⟨y52, hy52, h26⟩ := bnd h26
    refine p_ia rfl rfl (f_x_0.adv hI50.adv) hy52 Try.underlying26 Try.sizeOf3 rfl ?_
    intro b53 o54 cs55 hR56 hC57
    obtain ⟨rfl, r58⟩ := hR56
    refine s_ld rfl (hC57.cells.at 0 rfl) Try.isAgg3 rfl ?_
    refine s_eql rfl rfl rfl ?_
    refine Reg.nil ?_
    refine cw_cond rfl (fun hc59 => ?_) (fun hc59 => ?_)
    ·replace h26 := cdT hc59 h26
     refine cw_seq (cw_regF ?_)
     refine s_mv rfl rfl ?_
     refine s_fa rfl Try.underlying56 rfl Try.sizeOf3 rfl ?_
     refine s_ld rfl (hC51.cells.at 2 rfl) Try.isAgg3 rfl ?_
     obtain ⟨n60, hn60, h26⟩ := bnd h26
     replace hn60 := chk_out hn60
     refine p_add rfl rfl rfl hn60 ?_
     refine s_as rfl rfl ?_
     refine Reg.nil ?_
     refine cw_exit ?_
     refine exB_same ?_
     obtain rfl := Option.some.inj h26
     refine ⟨rfl, n60, ⟨hI50, (x46.trans (x49.trans (Hp.eraseA (σ := [rowR 56 b43 [v38, v40, Value.int .i64 y32.none_]]) 0))), hn60.2, rfl⟩, Sub.cons rfl (Sub.cons rfl (Sub.cons rfl (Sub.cons rfl (Sub.cons rfl (Sub.nil _)))))⟩
    ·replace h26 := cdF hc59 h26
     refine cw_skip ?_
     refine cw_seq ?_
     refine cw_regT fol (by kernel_rfl) ?_
     refine s_fa rfl Try.underlying56 rfl Try.sizeOf26 rfl ?_
     refine s_ld rfl (hC51.cells.at 0 rfl) Try.isAgg26 rfl ?_
     refine s_mv rfl rfl ?_
     refine s_mv rfl rfl ?_
     obtain ⟨y61, hy61, h26⟩ := bnd h26
     refine p_ia rfl rfl (f_x_0.adv hI50.adv) hy61 Try.underlying26 Try.sizeOf3 rfl ?_
     intro b62 o63 cs64 hR65 hC66
     obtain ⟨rfl, r67⟩ := hR65
     refine s_ld rfl (hC66.cells.at 0 rfl) Try.isAgg3 rfl ?_
     obtain ⟨⟨z68, z69⟩, hz70, h26⟩ := bnd h26
     refine s_callq rfl rfl Try.call129 rfl (fun w71 e72 => (C_slices_BinarySearch_129 (hI50.mlt.ext e72) ((hf39.adv (x46.trans (x49.trans (Hp.eraseA (σ := [rowR 56 b43 [v38, v40, Value.int .i64 y32.none_]]) 0)))).adv (Adv.of_ext e72)) r67 hz70).mono (fun _ _ hq => ⟨hq.1, hq.2.2⟩)) ?_
     have r73 := Calls.fact (C_slices_BinarySearch_129 hI50.mlt (hf39.adv (x46.trans (x49.trans (Hp.eraseA (σ := [rowR 56 b43 [v38, v40, Value.int .i64 y32.none_]]) 0)))) r67 hz70) (fun _ _ hq => hq.2.1)
     refine s_mv rfl rfl ?_
     refine s_xt rfl rfl rfl ?_
     refine s_xt rfl rfl rfl ?_
     refine s_as rfl rfl ?_
     refine s_as rfl rfl ?_
     refine Reg.nilq (fun w74 e75 => ?_)
     have hI76 := hI50.ext e75
     obtain ⟨j77, h78, h26⟩ := bnd h26
     refine cw_sub (L := [(8, _), (9, _), (1, _), (5, _), (7, _), (13, _), (14, _), (15, _)]) (Sub.cons rfl (Sub.cons rfl (Sub.cons rfl (Sub.cons rfl (Sub.cons rfl (Sub.cons rfl (Sub.cons rfl (Sub.cons rfl (Sub.nil _))))))))) ?_
     refine cw_seqD 2 (ι := Int) (fun x79 => [(8, Value.int .i64 x79)]) (fun x79 => fun w81 => w74 = w81 ∧ InK .i64 x79 ∧ x79 = j77) ?_ ?_
     ·skip
      refine cw_seq (cw_regF ?_)
      refine s_mv rfl rfl ?_
      refine Reg.nil ?_
      obtain ⟨j84, h85, h78⟩ := bnd h78
      refine cw_sub (L := [(8, _), (39, _), (1, _), (5, _), (7, _), (13, _), (14, _), (15, _)]) (Sub.cons rfl (Sub.cons rfl (Sub.cons rfl (Sub.cons rfl (Sub.cons rfl (Sub.cons rfl (Sub.cons rfl (Sub.cons rfl (Sub.nil _))))))))) ?_
      refine cw_unitD 2 (ι := Int) (fun x86 => [(8, Value.int .i64 x86)]) (fun x86 => fun w88 => w74 = w88 ∧ InK .i64 x86 ∧ x86 = j84) ?_ ?_
      ·skip
       refine cw_cond rfl (fun hc91 => ?_) (fun hc91 => ?_)
       ·replace h85 := cdT hc91 h85
        refine cw_regF ?_
        refine s_mv rfl rfl ?_
        obtain ⟨n92, hn92, h85⟩ := bnd h85
        replace hn92 := chk_out hn92
        refine p_add rfl rfl rfl hn92 ?_
        refine s_as rfl rfl ?_
        refine Reg.nil ?_
        obtain rfl := Option.some.inj h85
        refine ⟨rfl, n92, ⟨rfl, hn92.2, rfl⟩, Sub.cons rfl (Sub.cons rfl (Sub.cons rfl (Sub.cons rfl (Sub.cons rfl (Sub.cons rfl (Sub.cons rfl (Sub.nil _)))))))⟩
       ·replace h85 := cdF hc91 h85
        refine cw_skip ?_
        obtain rfl := Option.some.inj h85
        refine ⟨rfl, z68, ⟨rfl, r73, rfl⟩, Sub.cons rfl (Sub.cons rfl (Sub.cons rfl (Sub.cons rfl (Sub.cons rfl (Sub.cons rfl (Sub.cons rfl (Sub.nil _)))))))⟩
      ·skip
       rintro x86 _ ⟨rfl, r87, rfl⟩
       obtain rfl := Option.some.inj h78
       refine ⟨rfl, x86, ⟨rfl, r87, rfl⟩, Sub.cons rfl (Sub.cons rfl (Sub.cons rfl (Sub.cons rfl (Sub.cons rfl (Sub.cons rfl (Sub.cons rfl (Sub.nil _)))))))⟩
     ·skip
      rintro x79 _ ⟨rfl, r80, rfl⟩
      refine cw_regF ?_
      refine s_mv rfl rfl ?_
      refine s_fa rfl Try.underlying56 rfl Try.sizeOf26 rfl ?_
      refine s_ld rfl ((hC51.adv (Adv.of_ext e75)).cells.at 1 rfl) Try.isAgg26 rfl ?_
      refine s_mv rfl rfl ?_
      obtain ⟨y93, hy93, h26⟩ := bnd h26
      refine p_ia rfl rfl (hf41.adv (x46.trans (x49.trans ((Hp.eraseA (σ := [rowR 56 b43 [v38, v40, Value.int .i64 y32.none_]]) 0).trans (Adv.of_ext e75))))) hy93 Try.underlying26 Try.sizeOf3 rfl ?_
      intro b94 o95 cs96 hR97 hC98
      obtain ⟨rfl, r99⟩ := hR97
      refine s_ld rfl (hC98.cells.at 0 rfl) Try.isAgg3 rfl ?_
      obtain ⟨n100, hn100, h26⟩ := bnd h26
      replace hn100 := chk_out hn100
      refine p_add rfl rfl rfl hn100 ?_
      refine s_as rfl rfl ?_
      refine Reg.nil ?_
      obtain rfl := Option.some.inj h26
      refine ⟨rfl, n100, ⟨hI76, (x46.trans (x49.trans ((Hp.eraseA (σ := [rowR 56 b43 [v38, v40, Value.int .i64 y32.none_]]) 0).trans (Adv.of_ext e75)))), hn100.2, rfl⟩, Sub.cons rfl (Sub.cons rfl (Sub.cons rfl (Sub.cons rfl (Sub.cons rfl (Sub.nil _)))))⟩
   ·skip
    rintro x27 w29 ⟨hI30, hA31, r28, rfl⟩
    refine cw_regF ?_
    obtain ⟨n101, hn101, h22⟩ := bnd h22
    replace hn101 := chk_out hn101
    refine p_add rfl rfl rfl hn101 ?_
    refine s_mv rfl rfl ?_
    refine Reg.nil ?_
    obtain rfl := Option.some.inj h22
    refine ⟨rfl, (x27, n101), ⟨⟨hI30, (hA20.trans hA31), r28, hn101.2⟩, rfl⟩, Sub.cons rfl (Sub.cons rfl (Sub.cons rfl (Sub.cons rfl (Sub.cons rfl (Sub.nil _)))))⟩
  ·replace h22 := cdF hc24 h22
   refine cw_exit ?_
   refine exB_same ?_
   obtain rfl := Option.some.inj h22
   obtain rfl := hR23 _ rfl
   refine ⟨rfl, x14, ⟨hI19, hA20, r15, rfl⟩, Sub.cons rfl (Sub.nil _)⟩
 ·skip
  rintro x9 w11 ⟨hI12, hA13, r10, rfl⟩
  refine cw_seq (cw_regF ?_)
  refine s_mv rfl rfl ?_
  refine s_as rfl rfl ?_
  refine Reg.nil ?_
  refine cw_ret ?_
  obtain rfl := Option.some.inj h
  refine fin1 Try.results126 rfl ?_
  exact ⟨rfl, r10, hI12.kp⟩
noncomputable def P.score_tree_right (t : Tree) (traits : Int) : Option Bool :=
 Option.bind (loopM (S := Int) (R := (Unit) ⊕ (Bool)) (fun x7 => cond (decide (x7 < (t.nodes.length : Int))) (Option.bind (ixo t.nodes x7) fun y9 => Option.bind (Option.bind (chk .i64 (traits - 1)) fun n29 => Option.bind (P.score_within 0 n29 ([y9.trait] : List Int)) fun z34 => cond z34 (Option.bind (P.score_within 1 1000000 ([y9.cut] : List Int)) fun z44 => cond z44 (Option.bind (chk .i64 (x7 + 1)) fun n50 => Option.bind (chk .i64 ((t.nodes.length : Int) - 1)) fun n51 => Option.bind (P.score_within n50 n51 ([y9.low, y9.high] : List Int)) fun z56 => cond z56 (cond (!decide (y9.low = y9.high)) (some (decide (y9.points = 0))) (some false)) (some false)) (some false)) (some false)) fun x63 => Option.bind (Option.bind (P.score_counts ([y9.points] : List Int)) fun z68 => cond (!z68) (some true) (cond (!(decide ((Node.mk y9.trait y9.cut y9.low y9.high y9.points) = (Node.mk (-1) 0 0 0 y9.points)))) (some (!x63)) (some false))) fun x75 => cond x75 (some (.inr (.inr false))) (Option.bind (chk .i64 (x7 + 1)) fun n77 => some (.inl n77))) (some (.inr (.inl ())))) 0) fun j78 => Sum.elim (fun _ => Option.bind (P.score_within 1 7 ([(t.nodes.length : Int)] : List Int)) fun z83 => some z83) (fun r88 => some r88)  j78
theorem C_score_tree_right {M : List Nat} {w : World} (hM : MLt M w) {t : Tree} {v_t_1 : Value} (f_t_0 : InK .i64 t.weight) (f_t_1 : RdS NodeE M w v_t_1 t.nodes) {traits : Int} (f_traits_0 : InK .i64 traits) {r0 : Bool} (h : P.score_tree_right t traits = some r0) :
  Calls Try.prog 137 (List.toArray [Value.agg (List.toArray [Value.int .i64 t.weight, v_t_1]), Value.int .i64 traits]) w fun e w' => e = .returned (Value.bool r0) ∧ Ext w w' := by
 have hI := Hp.start (Mu := []) hM
 refine calls_cw Try.func137 rfl Try.ntmps137 rfl ?_
 refine cw_seq (cw_regF ?_)
 refine y_box hI rfl rfl rfl ?_
 intro b1 w2 hI3 x4
 have hC6 := hI3.freezeRow 0 rfl
 have hI5 := hI3.erase 0
 refine s_as rfl rfl ?_
 refine Reg.nil ?_
 refine cw_seq (cw_seq (cw_regF ?_))
 refine s_fa rfl Try.underlying106 rfl Try.sizeOf57 rfl ?_
 refine s_ld rfl (hC6.cells.at 1 rfl) Try.isAgg57 rfl ?_
 refine s_len rfl (f_t_1.adv hI5.adv) Try.underlying57 rfl ?_
 refine s_mv rfl rfl ?_
 refine Reg.nil ?_
 obtain ⟨j7, h8, h⟩ := bnd h
 refine cw_sub (L := [(1, _), (10, _), (11, _), (12, _), (2, _)]) (Sub.cons rfl (Sub.cons rfl (Sub.cons rfl (Sub.cons rfl (Sub.cons rfl (Sub.nil _)))))) ?_
 refine cw_unitD 4 (ι := Unit) (fun _ => []) (fun _ => fun w9 => Hp w [] M [] w9 ∧ Adv (mm [] M) (mm [] M) w2 w9 ∧ (.inl ()) = j7) ?_ ?_
 ·skip
  refine cw_block ?_
  refine cw_sub (L := [(12, _), (1, _), (2, _), (10, _), (11, _)]) (Sub.cons rfl (Sub.cons rfl (Sub.cons rfl (Sub.cons rfl (Sub.cons rfl (Sub.nil _)))))) ?_
  refine cw_loopM 1 (ι := Int) _ (fun x12 => [(12, Value.int .i64 x12)]) (fun x12 => x12) (fun x12 => fun w14 => Hp w [] M [] w14 ∧ Adv (mm [] M) (mm [] M) w2 w14 ∧ InK .i64 x12) 0 h8 ⟨hI5, (Adv.refl _ _), (by decide)⟩ (Sub.cons rfl (Sub.cons rfl (Sub.cons rfl (Sub.cons rfl (Sub.cons rfl (Sub.nil _)))))) ?_
  rintro x12 w14 ⟨hI15, hA16, r13⟩ y17 h18 hR19
  refine cw_seq (cw_regF ?_)
  refine s_lss rfl rfl rfl ?_
  refine Reg.nil ?_
  refine cw_seq ?_
  refine cw_cond rfl (fun hc20 => ?_) (fun hc20 => ?_)
  ·replace h18 := cdT hc20 h18
   refine cw_skip ?_
   refine cw_seq ?_
   refine cw_block ?_
   refine cw_seq (cw_regF ?_)
   refine s_mv rfl rfl ?_
   obtain ⟨y21, hy21, h18⟩ := bnd h18
   refine p_ia rfl rfl (f_t_1.adv hI15.adv) hy21 Try.underlying57 Try.sizeOf62 rfl ?_
   intro b22 o23 cs24 hR25 hC26
   obtain ⟨rfl, r27, r28, r29, r30, r31⟩ := NodeE_R.1 hR25
   refine s_lda rfl hC26.cells Try.isAgg62 rfl Try.sizeOf62 rfl ?_
   refine y_al hI15 Try.zeroValue62 rfl rfl ?_
   intro b32 w33 hI34 x35
   refine s_as rfl rfl ?_
   refine y_st 0 hI34 rfl rfl rfl rfl Try.sizeOf62 rfl rfl (one1 rfl (one1 rfl (one1 rfl (one1 rfl (one1 rfl one0))))) ?_
   intro w36 hI37 x38
   have hC40 := hI37.freezeRow 0 rfl
   have hI39 := hI37.erase 0
   refine Reg.nil ?_
   refine cw_seq (cw_regF ?_)
   refine s_lda rfl hC40.cells Try.isAgg62 rfl Try.sizeOf62 rfl ?_
   refine s_fa rfl Try.underlying62 rfl Try.sizeOf3 rfl ?_
   refine s_ld rfl (hC40.cells.at 4 rfl) Try.isAgg3 rfl ?_
   refine s_bd [(0, 1), (1, 1), (2, 1), (3, 1), (4, 1)] Try.zeroValue62 rfl Try.underlying62 (fun _ => by simp [Try.sizeOf3]) rfl (Cls.cons rfl (Cls.cons rfl (Cls.nil))) rfl rfl ?_
   refine s_eqS (Node_eq (Node.mk y21.trait y21.cut y21.low y21.high y21.points) (Node.mk (-1) 0 0 0 y21.points)) Try.eqGuardType62 rfl rfl rfl ?_
   refine s_as rfl rfl ?_
   refine Reg.nil ?_
   obtain ⟨j41, h42, h18⟩ := bnd h18
   refine cw_sub (L := [(5, _), (1, _), (2, _), (6, _), (7, _), (10, _), (11, _), (12, _)]) (Sub.cons rfl (Sub.cons rfl (Sub.cons rfl (Sub.cons rfl (Sub.cons rfl (Sub.cons rfl (Sub.cons rfl (Sub.cons rfl (Sub.nil _))))))))) ?_
   refine cw_seqD 1 (ι := Bool) (fun x43 => [(8, Value.bool x43)]) (fun x43 => fun w44 => Hp w [] M [] w44 ∧ Adv (mm [] M) (mm [] M) w36 w44 ∧ x43 = j41) ?_ ?_
   ·skip
    refine cw_regF ?_
    refine s_mv rfl rfl ?_
    obtain ⟨n47, hn47, h42⟩ := bnd h42
    replace hn47 := chk_out hn47
    refine p_sub rfl rfl rfl hn47 ?_
    refine s_fa rfl Try.underlying62 rfl Try.sizeOf3 rfl ?_
    refine s_ld rfl (hC40.cells.at 0 rfl) Try.isAgg3 rfl ?_
    refine y_bs (E := (intE .i64)) (xs := [y21.trait]) sl26 hI39 rfl rfl (Cls.cons rfl Cls.nil) (Chs.cons ⟨rfl, r27⟩ Chs.nil) rfl rfl ?_
    intro v48 w49 hI50 x51
    obtain ⟨z52, hz53, h42⟩ := bnd h42
    refine s_call rfl Try.call43 rfl ?_
    refine (C_score_within (hI50.sel [] rfl).mlt (by decide) hn47.2 (hI50.lendRd [] 0 rfl rfl) hz53).mono ?_
    rintro _ w54 ⟨rfl, e55⟩
    refine ⟨_, rfl, ?_⟩
    have hI56 := hI50.ext e55
    refine s_mv rfl rfl ?_
    refine Reg.gsplit (t := 28) rfl (fun hg57 => ?_) (fun hg57 => ?_)
    ·replace h42 := cdT hg57 h42
     refine Reg.take rfl rfl ?_
     refine s_fa rfl Try.underlying62 rfl Try.sizeOf3 rfl ?_
     refine Reg.take rfl rfl ?_
     refine s_ld rfl ((hC40.adv (x51.trans (Adv.of_ext e55))).cells.at 1 rfl) Try.isAgg3 rfl ?_
     refine Reg.take rfl rfl ?_
     refine y_bs (E := (intE .i64)) (xs := [y21.cut]) sl26 hI56 rfl rfl (Cls.cons rfl Cls.nil) (Chs.cons ⟨rfl, r28⟩ Chs.nil) rfl rfl ?_
     intro v58 w59 hI60 x61
     refine Reg.take rfl rfl ?_
     obtain ⟨z62, hz63, h42⟩ := bnd h42
     refine s_call rfl Try.call43 rfl ?_
     refine (C_score_within (hI60.sel [1] rfl).mlt (by decide) (by decide) (hI60.lendRd [1] 0 rfl rfl) hz63).mono ?_
     rintro _ w64 ⟨rfl, e65⟩
     refine ⟨_, rfl, ?_⟩
     have hI66 := hI60.ext e65
     refine s_pkT rfl rfl rfl ?_
     refine s_mv rfl rfl ?_
     refine Reg.gsplit (t := 34) rfl (fun hg67 => ?_) (fun hg67 => ?_)
     ·replace h42 := cdT hg67 h42
      refine Reg.take rfl rfl ?_
      refine s_mv rfl rfl ?_
      refine Reg.take rfl rfl ?_
      obtain ⟨n68, hn68, h42⟩ := bnd h42
      replace hn68 := chk_out hn68
      refine p_add rfl rfl rfl hn68 ?_
      refine Reg.take rfl rfl ?_
      refine s_fa rfl Try.underlying106 rfl Try.sizeOf57 rfl ?_
      refine Reg.take rfl rfl ?_
      refine s_ld rfl ((hC6.adv (hA16.trans (x35.trans (x38.trans ((Hp.eraseA (σ := [rowR 62 b32 [Value.int .i64 y21.trait, Value.int .i64 y21.cut, Value.int .i64 y21.low, Value.int .i64 y21.high, Value.int .i64 y21.points]]) 0).trans (x51.trans ((Adv.of_ext e55).trans (x61.trans (Adv.of_ext e65))))))))).cells.at 1 rfl) Try.isAgg57 rfl ?_
      refine Reg.take rfl rfl ?_
      refine s_len rfl (f_t_1.adv hI66.adv) Try.underlying57 rfl ?_
      refine Reg.take rfl rfl ?_
      obtain ⟨n69, hn69, h42⟩ := bnd h42
      replace hn69 := chk_out hn69
      refine p_sub rfl rfl rfl hn69 ?_
      refine Reg.take rfl rfl ?_
      refine s_fa rfl Try.underlying62 rfl Try.sizeOf3 rfl ?_
      refine Reg.take rfl rfl ?_
      refine s_ld rfl ((hC40.adv (x51.trans ((Adv.of_ext e55).trans (x61.trans (Adv.of_ext e65))))).cells.at 2 rfl) Try.isAgg3 rfl ?_
      refine Reg.take rfl rfl ?_
      refine s_fa rfl Try.underlying62 rfl Try.sizeOf3 rfl ?_
      refine Reg.take rfl rfl ?_
      refine s_ld rfl ((hC40.adv (x51.trans ((Adv.of_ext e55).trans (x61.trans (Adv.of_ext e65))))).cells.at 3 rfl) Try.isAgg3 rfl ?_
      refine Reg.take rfl rfl ?_
      refine y_bs (E := (intE .i64)) (xs := [y21.low, y21.high]) sl26 hI66 rfl rfl (Cls.cons rfl (Cls.cons rfl Cls.nil)) (Chs.cons ⟨rfl, r29⟩ (Chs.cons ⟨rfl, r30⟩ Chs.nil)) rfl rfl ?_
      intro v70 w71 hI72 x73
      refine Reg.take rfl rfl ?_
      obtain ⟨z74, hz75, h42⟩ := bnd h42
      refine s_call rfl Try.call43 rfl ?_
      refine (C_score_within (hI72.sel [1, 2] rfl).mlt hn68.2 hn69.2 (hI72.lendRd [1, 2] 0 rfl rfl) hz75).mono ?_
      rintro _ w76 ⟨rfl, e77⟩
      refine ⟨_, rfl, ?_⟩
      have hI78 := hI72.ext e77
      refine s_pkT rfl rfl rfl ?_
      refine s_mv rfl rfl ?_
      refine Reg.gsplit (t := 48) rfl (fun hg79 => ?_) (fun hg79 => ?_)
      ·replace h42 := cdT hg79 h42
       refine Reg.take rfl rfl ?_
       refine s_fa rfl Try.underlying62 rfl Try.sizeOf3 rfl ?_
       refine Reg.take rfl rfl ?_
       refine s_ld rfl ((hC40.adv (x51.trans ((Adv.of_ext e55).trans (x61.trans ((Adv.of_ext e65).trans (x73.trans (Adv.of_ext e77))))))).cells.at 2 rfl) Try.isAgg3 rfl ?_
       refine Reg.take rfl rfl ?_
       refine s_fa rfl Try.underlying62 rfl Try.sizeOf3 rfl ?_
       refine Reg.take rfl rfl ?_
       refine s_ld rfl ((hC40.adv (x51.trans ((Adv.of_ext e55).trans (x61.trans ((Adv.of_ext e65).trans (x73.trans (Adv.of_ext e77))))))).cells.at 3 rfl) Try.isAgg3 rfl ?_
       refine Reg.take rfl rfl ?_
       refine s_neq rfl rfl rfl ?_
       refine s_pkT rfl rfl rfl ?_
       refine s_mv rfl rfl ?_
       refine Reg.gsplit (t := 55) rfl (fun hg80 => ?_) (fun hg80 => ?_)
       ·replace h42 := cdT hg80 h42
        refine Reg.take rfl rfl ?_
        refine s_fa rfl Try.underlying62 rfl Try.sizeOf3 rfl ?_
        refine Reg.take rfl rfl ?_
        refine s_ld rfl ((hC40.adv (x51.trans ((Adv.of_ext e55).trans (x61.trans ((Adv.of_ext e65).trans (x73.trans (Adv.of_ext e77))))))).cells.at 4 rfl) Try.isAgg3 rfl ?_
        refine Reg.take rfl rfl ?_
        refine s_eql rfl rfl rfl ?_
        refine s_pkT rfl rfl rfl ?_
        refine s_as rfl rfl ?_
        refine Reg.nil ?_
        obtain rfl := Option.some.inj h42
        refine ⟨rfl, decide (y21.points = 0), ⟨(hI78.sel [] rfl), ((x51.trans ((Adv.of_ext e55).trans (x61.trans ((Adv.of_ext e65).trans (x73.trans (Adv.of_ext e77)))))).trans (Hp.selA (σ := [ownR [] (intE .i64) 3 v70 ([y21.low, y21.high] : List Int), ownR [] (intE .i64) 3 v58 ([y21.cut] : List Int), ownR [] (intE .i64) 3 v48 ([y21.trait] : List Int)]) [])), rfl⟩, Sub.cons rfl (Sub.cons rfl (Sub.cons rfl (Sub.cons rfl (Sub.cons rfl (Sub.cons rfl (Sub.cons rfl (Sub.cons rfl (Sub.nil _))))))))⟩
       ·replace h42 := cdF hg80 h42
        refine Reg.pass rfl rfl rfl rfl ?_
        refine Reg.pass rfl rfl rfl rfl ?_
        refine Reg.pass rfl rfl rfl rfl ?_
        refine s_pkF rfl rfl rfl ?_
        refine s_as rfl rfl ?_
        refine Reg.nil ?_
        obtain rfl := Option.some.inj h42
        refine ⟨rfl, false, ⟨(hI78.sel [] rfl), ((x51.trans ((Adv.of_ext e55).trans (x61.trans ((Adv.of_ext e65).trans (x73.trans (Adv.of_ext e77)))))).trans (Hp.selA (σ := [ownR [] (intE .i64) 3 v70 ([y21.low, y21.high] : List Int), ownR [] (intE .i64) 3 v58 ([y21.cut] : List Int), ownR [] (intE .i64) 3 v48 ([y21.trait] : List Int)]) [])), rfl⟩, Sub.cons rfl (Sub.cons rfl (Sub.cons rfl (Sub.cons rfl (Sub.cons rfl (Sub.cons rfl (Sub.cons rfl (Sub.cons rfl (Sub.nil _))))))))⟩
      ·replace h42 := cdF hg79 h42
       refine Reg.pass rfl rfl rfl rfl ?_
       refine Reg.pass rfl rfl rfl rfl ?_
       refine Reg.pass rfl rfl rfl rfl ?_
       refine Reg.pass rfl rfl rfl rfl ?_
       refine Reg.pass rfl rfl rfl rfl ?_
       refine s_pkF rfl rfl rfl ?_
       refine s_mv rfl rfl ?_
       refine Reg.pass rfl rfl rfl rfl ?_
       refine Reg.pass rfl rfl rfl rfl ?_
       refine Reg.pass rfl rfl rfl rfl ?_
       refine s_pkF rfl rfl rfl ?_
       refine s_as rfl rfl ?_
       refine Reg.nil ?_
       obtain rfl := Option.some.inj h42
       refine ⟨rfl, false, ⟨(hI78.sel [] rfl), ((x51.trans ((Adv.of_ext e55).trans (x61.trans ((Adv.of_ext e65).trans (x73.trans (Adv.of_ext e77)))))).trans (Hp.selA (σ := [ownR [] (intE .i64) 3 v70 ([y21.low, y21.high] : List Int), ownR [] (intE .i64) 3 v58 ([y21.cut] : List Int), ownR [] (intE .i64) 3 v48 ([y21.trait] : List Int)]) [])), rfl⟩, Sub.cons rfl (Sub.cons rfl (Sub.cons rfl (Sub.cons rfl (Sub.cons rfl (Sub.cons rfl (Sub.cons rfl (Sub.cons rfl (Sub.nil _))))))))⟩
     ·replace h42 := cdF hg67 h42
      refine Reg.pass rfl rfl rfl rfl ?_
      refine Reg.pass rfl rfl rfl rfl ?_
      refine Reg.pass rfl rfl rfl rfl ?_
      refine Reg.pass rfl rfl rfl rfl ?_
      refine Reg.pass rfl rfl rfl rfl ?_
      refine Reg.pass rfl rfl rfl rfl ?_
      refine Reg.pass rfl rfl rfl rfl ?_
      refine Reg.pass rfl rfl rfl rfl ?_
      refine Reg.pass rfl rfl rfl rfl ?_
      refine Reg.pass rfl rfl rfl rfl ?_
      refine Reg.pass rfl rfl rfl rfl ?_
      refine Reg.pass rfl rfl rfl rfl ?_
      refine s_pkF rfl rfl rfl ?_
      refine s_mv rfl rfl ?_
      refine Reg.pass rfl rfl rfl rfl ?_
      refine Reg.pass rfl rfl rfl rfl ?_
      refine Reg.pass rfl rfl rfl rfl ?_
      refine Reg.pass rfl rfl rfl rfl ?_
      refine Reg.pass rfl rfl rfl rfl ?_
      refine s_pkF rfl rfl rfl ?_
      refine s_mv rfl rfl ?_
      refine Reg.pass rfl rfl rfl rfl ?_
      refine Reg.pass rfl rfl rfl rfl ?_
      refine Reg.pass rfl rfl rfl rfl ?_
      refine s_pkF rfl rfl rfl ?_
      refine s_as rfl rfl ?_
      refine Reg.nil ?_
      obtain rfl := Option.some.inj h42
      refine ⟨rfl, false, ⟨(hI66.sel [] rfl), ((x51.trans ((Adv.of_ext e55).trans (x61.trans (Adv.of_ext e65)))).trans (Hp.selA (σ := [ownR [] (intE .i64) 3 v58 ([y21.cut] : List Int), ownR [] (intE .i64) 3 v48 ([y21.trait] : List Int)]) [])), rfl⟩, Sub.cons rfl (Sub.cons rfl (Sub.cons rfl (Sub.cons rfl (Sub.cons rfl (Sub.cons rfl (Sub.cons rfl (Sub.cons rfl (Sub.nil _))))))))⟩
    ·replace h42 := cdF hg57 h42
     refine Reg.pass rfl rfl rfl rfl ?_
     refine Reg.pass rfl rfl rfl rfl ?_
     refine Reg.pass rfl rfl rfl rfl ?_
     refine Reg.pass rfl rfl rfl rfl ?_
     refine s_pkF rfl rfl rfl ?_
     refine s_mv rfl rfl ?_
     refine Reg.pass rfl rfl rfl rfl ?_
     refine Reg.pass rfl rfl rfl rfl ?_
     refine Reg.pass rfl rfl rfl rfl ?_
     refine Reg.pass rfl rfl rfl rfl ?_
     refine Reg.pass rfl rfl rfl rfl ?_
     refine Reg.pass rfl rfl rfl rfl ?_
     refine Reg.pass rfl rfl rfl rfl ?_
     refine Reg.pass rfl rfl rfl rfl ?_
     refine Reg.pass rfl rfl rfl rfl ?_
     refine Reg.pass rfl rfl rfl rfl ?_
     refine Reg.pass rfl rfl rfl rfl ?_
     refine Reg.pass rfl rfl rfl rfl ?_
     refine s_pkF rfl rfl rfl ?_
     refine s_mv rfl rfl ?_
     refine Reg.pass rfl rfl rfl rfl ?_
     refine Reg.pass rfl rfl rfl rfl ?_
     refine Reg.pass rfl rfl rfl rfl ?_
     refine Reg.pass rfl rfl rfl rfl ?_
     refine Reg.pass rfl rfl rfl rfl ?_
     refine s_pkF rfl rfl rfl ?_
     refine s_mv rfl rfl ?_
     refine Reg.pass rfl rfl rfl rfl ?_
     refine Reg.pass rfl rfl rfl rfl ?_
     refine Reg.pass rfl rfl rfl rfl ?_
     refine s_pkF rfl rfl rfl ?_
     refine s_as rfl rfl ?_
     refine Reg.nil ?_
     obtain rfl := Option.some.inj h42
     refine ⟨rfl, false, ⟨(hI56.sel [] rfl), ((x51.trans (Adv.of_ext e55)).trans (Hp.selA (σ := [ownR [] (intE .i64) 3 v48 ([y21.trait] : List Int)]) [])), rfl⟩, Sub.cons rfl (Sub.cons rfl (Sub.cons rfl (Sub.cons rfl (Sub.cons rfl (Sub.cons rfl (Sub.cons rfl (Sub.cons rfl (Sub.nil _))))))))⟩
   ·skip
    rintro x43 w44 ⟨hI45, hA46, rfl⟩
    obtain ⟨j81, h82, h18⟩ := bnd h18
    refine cw_sub (L := [(6, _), (7, _), (8, _), (1, _), (2, _), (10, _), (11, _), (12, _)]) (Sub.cons rfl (Sub.cons rfl (Sub.cons rfl (Sub.cons rfl (Sub.cons rfl (Sub.cons rfl (Sub.cons rfl (Sub.cons rfl (Sub.nil _))))))))) ?_
    refine cw_seqD 3 (ι := Bool) (fun x83 => [(72, Value.bool x83)]) (fun x83 => fun w84 => Hp w [] M [] w84 ∧ Adv (mm [] M) (mm [] M) w44 w84 ∧ x83 = j81) ?_ ?_
    ·skip
     refine cw_regF ?_
     refine s_fa rfl Try.underlying62 rfl Try.sizeOf3 rfl ?_
     refine s_ld rfl ((hC40.adv hA46).cells.at 4 rfl) Try.isAgg3 rfl ?_
     refine y_bs (E := (intE .i64)) (xs := [y21.points]) sl26 hI45 rfl rfl (Cls.cons rfl Cls.nil) (Chs.cons ⟨rfl, r31⟩ Chs.nil) rfl rfl ?_
     intro v87 w88 hI89 x90
     obtain ⟨z91, hz92, h82⟩ := bnd h82
     refine s_call rfl Try.call53 rfl ?_
     refine (C_score_counts (hI89.sel [] rfl).mlt (hI89.lendRd [] 0 rfl rfl) hz92).mono ?_
     rintro _ w93 ⟨rfl, e94⟩
     refine ⟨_, rfl, ?_⟩
     have hI95 := hI89.ext e94
     refine s_not rfl rfl ?_
     refine s_mv rfl rfl ?_
     refine Reg.gsplit (t := 65) rfl (fun hg96 => ?_) (fun hg96 => ?_)
     ·replace h82 := cdT hg96 h82
      refine Reg.pass rfl rfl rfl rfl ?_
      refine Reg.pass rfl rfl rfl rfl ?_
      refine Reg.pass rfl rfl rfl rfl ?_
      refine Reg.passU rfl rfl rfl ?_
      refine Reg.passU rfl rfl rfl ?_
      refine Reg.pass rfl rfl rfl rfl ?_
      refine s_pkT rfl rfl rfl ?_
      refine Reg.nil ?_
      obtain rfl := Option.some.inj h82
      refine ⟨rfl, true, ⟨(hI95.sel [] rfl), ((x90.trans (Adv.of_ext e94)).trans (Hp.selA (σ := [ownR [] (intE .i64) 3 v87 ([y21.points] : List Int)]) [])), rfl⟩, Sub.cons rfl (Sub.cons rfl (Sub.cons rfl (Sub.cons rfl (Sub.cons rfl (Sub.cons rfl (Sub.nil _))))))⟩
     ·replace h82 := cdF hg96 h82
      refine Reg.take rfl rfl ?_
      refine s_mv rfl rfl ?_
      refine Reg.take rfl rfl ?_
      refine s_not rfl rfl ?_
      refine Reg.take rfl rfl ?_
      refine s_mv rfl rfl ?_
      refine Reg.gsplit (t := 68) rfl (fun hg97 => ?_) (fun hg97 => ?_)
      ·replace h82 := cdT hg97 h82
       refine Reg.take rfl rfl ?_
       refine s_mv rfl rfl ?_
       refine Reg.take rfl rfl ?_
       refine s_not rfl rfl ?_
       refine Reg.take rfl rfl ?_
       refine s_pkT rfl rfl rfl ?_
       refine s_pkF rfl rfl rfl ?_
       refine Reg.nil ?_
       obtain rfl := Option.some.inj h82
       refine ⟨rfl, !x43, ⟨(hI95.sel [] rfl), ((x90.trans (Adv.of_ext e94)).trans (Hp.selA (σ := [ownR [] (intE .i64) 3 v87 ([y21.points] : List Int)]) [])), rfl⟩, Sub.cons rfl (Sub.cons rfl (Sub.cons rfl (Sub.cons rfl (Sub.cons rfl (Sub.cons rfl (Sub.nil _))))))⟩
      ·replace h82 := cdF hg97 h82
       refine Reg.pass rfl rfl rfl rfl ?_
       refine Reg.pass rfl rfl rfl rfl ?_
       refine Reg.take rfl rfl ?_
       refine s_pkF rfl rfl rfl ?_
       refine s_pkF rfl rfl rfl ?_
       refine Reg.nil ?_
       obtain rfl := Option.some.inj h82
       refine ⟨rfl, false, ⟨(hI95.sel [] rfl), ((x90.trans (Adv.of_ext e94)).trans (Hp.selA (σ := [ownR [] (intE .i64) 3 v87 ([y21.points] : List Int)]) [])), rfl⟩, Sub.cons rfl (Sub.cons rfl (Sub.cons rfl (Sub.cons rfl (Sub.cons rfl (Sub.cons rfl (Sub.nil _))))))⟩
    ·skip
     rintro x83 w84 ⟨hI85, hA86, rfl⟩
     refine cw_cond rfl (fun hc98 => ?_) (fun hc98 => ?_)
     ·replace h18 := cdT hc98 h18
      refine cw_seq (cw_regF ?_)
      refine s_as rfl rfl ?_
      refine Reg.nil ?_
      refine cw_ret ?_
      obtain rfl := Option.some.inj h18
      obtain rfl := hR19 _ rfl
      replace h := elimR h
      obtain rfl := Option.some.inj h
      refine fin1 Try.results137 rfl ?_
      exact ⟨rfl, hI85.kp⟩
     ·replace h18 := cdF hc98 h18
      refine cw_skip ?_
      refine cw_regF ?_
      obtain ⟨n99, hn99, h18⟩ := bnd h18
      replace hn99 := chk_out hn99
      refine p_add rfl rfl rfl hn99 ?_
      refine s_mv rfl rfl ?_
      refine Reg.nil ?_
      obtain rfl := Option.some.inj h18
      refine ⟨rfl, n99, ⟨⟨hI85, (hA16.trans (x35.trans (x38.trans ((Hp.eraseA (σ := [rowR 62 b32 [Value.int .i64 y21.trait, Value.int .i64 y21.cut, Value.int .i64 y21.low, Value.int .i64 y21.high, Value.int .i64 y21.points]]) 0).trans (hA46.trans hA86))))), hn99.2⟩, rfl⟩, Sub.cons rfl (Sub.cons rfl (Sub.cons rfl (Sub.cons rfl (Sub.cons rfl (Sub.nil _)))))⟩
  ·replace h18 := cdF hc20 h18
   refine cw_exit ?_
   refine exB_same ?_
   obtain rfl := Option.some.inj h18
   obtain rfl := hR19 _ rfl
   refine ⟨rfl, (), ⟨hI15, hA16, rfl⟩, Sub.cons rfl (Sub.nil _)⟩
 ·skip
  rintro _ w9 ⟨hI10, hA11, rfl⟩
  replace h := elimL h
  refine cw_seq (cw_regF ?_)
  refine s_fa rfl Try.underlying106 rfl Try.sizeOf57 rfl ?_
  refine s_ld rfl ((hC6.adv hA11).cells.at 1 rfl) Try.isAgg57 rfl ?_
  refine s_len rfl (f_t_1.adv hI10.adv) Try.underlying57 rfl ?_
  refine y_bs (E := (intE .i64)) (xs := [(t.nodes.length : Int)]) sl26 hI10 rfl rfl (Cls.cons rfl Cls.nil) (Chs.cons ⟨rfl, (RdS.inK f_t_1)⟩ Chs.nil) rfl rfl ?_
  intro v100 w101 hI102 x103
  obtain ⟨z104, hz105, h⟩ := bnd h
  refine s_call rfl Try.call43 rfl ?_
  refine (C_score_within (hI102.sel [] rfl).mlt (by decide) (by decide) (hI102.lendRd [] 0 rfl rfl) hz105).mono ?_
  rintro _ w106 ⟨rfl, e107⟩
  refine ⟨_, rfl, ?_⟩
  have hI108 := hI102.ext e107
  refine s_as rfl rfl ?_
  refine Reg.nil ?_
  refine cw_ret ?_
  obtain rfl := Option.some.inj h
  refine fin1 Try.results137 rfl ?_
  exact ⟨rfl, hI108.kp⟩
end Go.Proofs.Ytecmlmngcnionaa
