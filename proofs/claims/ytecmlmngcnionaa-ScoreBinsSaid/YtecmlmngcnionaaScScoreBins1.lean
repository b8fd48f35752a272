/-
  Part ScoreBins 1 of the texts that the statement's proof stands on: what memory holds, how code is walked, what the functions reckon. In the order in which they build.
-/

import Derived.Test.YtecmlmngcnionaaSc9
set_option linter.unusedVariables false
set_option maxRecDepth 20000
namespace Go.Proofs.Ytecmlmngcnionaa
open Go Go.Sx Go.RowKit
noncomputable def P.law06_ScoreBins (m : Model) (x : (List Int)) (by_ : (List Int)) : Option Bool :=
 Option.bind (P.law06_alive ) fun z7 => cond (!z7) (some false) (Option.bind (P.law06_ready (Model.mk m.traits m.cards m.trees m.need) x) fun z13 => cond (!z13) (some z7) (Option.bind (appo 8 ([] : List Int) x) fun l23 => Option.bind (loopM (S := Int × (List Int)) (R := ((List Int))) (fun (x28, x29) => cond (decide (x28 < (l23.length : Int))) (Option.bind (Option.bind (ixo x29 x28) fun y31 => cond (decide (y31 = (-1))) (some x29) (Option.bind (P.ref06_Steps (Model.mk m.traits m.cards m.trees m.need) x28) fun z39 => Option.bind (loopM (S := Int × Int × Int) (R := (Int × Int)) (fun (x46, x47, x48) => cond (decide (x48 < (z39.length : Int))) (Option.bind (Option.bind (ixo z39 x48) fun y50 => Option.bind (ixo x x28) fun y57 => Option.bind (cond (decide (y50 ≤ y57)) (some (max x46 y50, x47)) (Option.bind (chk .i64 (y50 - 1)) fun n65 => some (x46, min x47 n65))) fun (x66, x67) => some (x66, x67)) fun (x68, x69) => Option.bind (chk .i64 (x48 + 1)) fun n70 => some (.inl (x68, x69, n70))) (some (.inr (x46, x47)))) (0, 1000000, 0)) fun (x71, x72) => Option.bind (P.law06_at by_ x28) fun z73 => Option.bind (chk .i64 z73) fun n79 => Option.bind (chk .i64 (x72 - x71)) fun n80 => Option.bind (chk .i64 (n80 + 1)) fun n81 => Option.bind (remO n79 n81) fun n82 => Option.bind (chk .i64 (x71 + n82)) fun n83 => Option.bind (ixo x29 x28) fun y84 => Option.bind (seto x29 x28 n83) fun l91 => some l91)) fun x95 => Option.bind (chk .i64 (x28 + 1)) fun n96 => some (.inl (n96, x95))) (some (.inr x29))) (0, l23)) fun x97 => Option.bind (P.score_Score (Model.mk m.traits m.cards m.trees m.need) x) fun (z98, z99, z100) => Option.bind (P.score_Score (Model.mk m.traits m.cards m.trees m.need) x97) fun (z107, z108, z109) => Option.bind (cond z7 (cond (decide (z100 = 0)) (cond (decide (z109 = 0)) (cond (decide (z98 = z107)) (some (z99 == z108)) (some false)) (some false)) (some false)) (some false)) fun x120 => some x120))
theorem C_law06_ScoreBins {M : List Nat} {w : World} (hM : MLt M w) {m : Model} {v_m_1 : Value} {v_m_2 : Value} (f_m_0 : InK .i64 m.traits) (f_m_1 : RdS CardE M w v_m_1 m.cards) (f_m_2 : RdS TreeE M w v_m_2 m.trees) (f_m_3 : InK .i64 m.need) {x : (List Int)} {v_x_0 : Value} (f_x_0 : RdS (intE .i64) M w v_x_0 x) {by_ : (List Int)} {v_by__0 : Value} (f_by__0 : RdS (intE .u32) M w v_by__0 by_) {r0 : Bool} (h : P.law06_ScoreBins m x by_ = some r0) :
  Calls Try.prog 6 (List.toArray [Value.agg (List.toArray [Value.int .i64 m.traits, v_m_1, v_m_2, Value.int .i64 m.need]), v_x_0, v_by__0]) w fun e w' => e = .returned (Value.bool r0) ∧ Ext w w' := by
 have hI := Hp.start (Mu := []) hM
 refine calls_cw Try.func6 rfl Try.ntmps6 rfl ?_
 refine cw_seq (cw_regF ?_)
 refine y_box hI rfl rfl rfl ?_
 intro b1 w2 hI3 x4
 have hC6 := hI3.freezeRow 0 rfl
 have hI5 := hI3.erase 0
 refine s_as rfl rfl ?_
 refine Reg.nil ?_
 refine cw_seq (cw_regF ?_)
 obtain ⟨z7, hz8, h⟩ := bnd h
 refine s_call rfl Try.call24 rfl ?_
 refine (C_law06_alive hI5.mlt hz8).mono ?_
 rintro _ w9 ⟨rfl, e10⟩
 refine ⟨_, rfl, ?_⟩
 have hI11 := hI5.ext e10
 refine s_as rfl rfl ?_
 refine Reg.nil ?_
 refine cw_seq (cw_seq (cw_regF ?_))
 refine s_mv rfl rfl ?_
 refine s_not rfl rfl ?_
 refine Reg.nil ?_
 refine cw_cond rfl (fun hc12 => ?_) (fun hc12 => ?_)
 ·replace h := cdT hc12 h
  refine cw_seq (cw_regF ?_)
  refine s_as rfl rfl ?_
  refine Reg.nil ?_
  refine cw_ret ?_
  obtain rfl := Option.some.inj h
  refine fin1 Try.results6 rfl ?_
  exact ⟨rfl, hI11.kp⟩
 ·replace h := cdF hc12 h
  refine cw_skip (cw_seq (cw_seq (cw_regF ?_)))
  refine s_lda rfl (hC6.adv (Adv.of_ext e10)).cells Try.isAgg25 rfl Try.sizeOf25 rfl ?_
  refine s_mv rfl rfl ?_
  obtain ⟨z13, hz14, h⟩ := bnd h
  refine s_call rfl Try.call25 rfl ?_
  refine (C_law06_ready hI11.mlt f_m_0 (f_m_1.adv hI11.adv) (f_m_2.adv hI11.adv) f_m_3 (f_x_0.adv hI11.adv) hz14).mono ?_
  rintro _ w15 ⟨rfl, e16⟩
  refine ⟨_, rfl, ?_⟩
  have hI17 := hI11.ext e16
  refine s_not rfl rfl ?_
  refine Reg.nil ?_
  refine cw_cond rfl (fun hc18 => ?_) (fun hc18 => ?_)
  ·replace h := cdT hc18 h
   refine cw_seq (cw_regF ?_)
   refine s_mv rfl rfl ?_
   refine s_as rfl rfl ?_
   refine Reg.nil ?_
   refine cw_ret ?_
   obtain rfl := Option.some.inj h
   refine fin1 Try.results6 rfl ?_
   exact ⟨rfl, hI17.kp⟩
  ·replace h := cdF hc18 h
   refine cw_skip (cw_seq (cw_regF ?_))
   refine y_bs (E := (intE .i64)) (xs := []) sl26 hI17 rfl rfl Cls.nil Chs.nil rfl rfl ?_
   intro v19 w20 hI21 x22
   refine s_mv rfl rfl ?_
   obtain ⟨l23, hl23, h⟩ := bnd h
   obtain ⟨hbl23, el23⟩ := appo_out hl23
   refine y_app 0 sl26 hI21 rfl rfl rfl (f_x_0.adv hI21.adv) hbl23 rfl ?_
   rw [← el23]
   intro v24 w25 hI26 x27
   refine s_as rfl rfl ?_
   refine Reg.nil ?_
   refine cw_seq (cw_seq (cw_regF ?_))
   refine s_mv rfl rfl ?_
   refine s_lenO rfl (hI26.ownAt 0 rfl) Try.underlying26 rfl ?_
   refine s_mv rfl rfl ?_
   refine Reg.nil ?_
   obtain ⟨j28, h29, h⟩ := bnd h
   refine cw_sub (L := [(2, _), (32, _), (33, _), (1, _), (3, _), (7, _), (8, _)]) (Sub.cons rfl (Sub.cons rfl (Sub.cons rfl (Sub.cons rfl (Sub.cons rfl (Sub.cons rfl (Sub.cons rfl (Sub.nil _)))))))) ?_
   refine cw_unitD 3 (ι := (List Int)) (fun x30 => []) (fun x30 => fun w31 => Hp w [] M [ownR [] (intE .i64) 3 v24 x30] w31 ∧ Adv (mm [ownR [] (intE .i64) 3 v24 l23] M) (mm [ownR [] (intE .i64) 3 v24 x30] M) w25 w31 ∧ x30 = j28) ?_ ?_
   ·skip
    refine cw_block ?_
    refine cw_sub (L := [(33, _), (1, _), (2, _), (3, _), (7, _), (8, _), (32, _)]) (Sub.cons rfl (Sub.cons rfl (Sub.cons rfl (Sub.cons rfl (Sub.cons rfl (Sub.cons rfl (Sub.cons rfl (Sub.nil _)))))))) ?_
    refine cw_loopM 1 (ι := Int × (List Int)) _ (fun ⟨x34, x36⟩ => [(33, Value.int .i64 x34)]) (fun ⟨x34, x36⟩ => (x34, x36)) (fun ⟨x34, x36⟩ => fun w37 => Hp w [] M [ownR [] (intE .i64) 3 v24 x36] w37 ∧ Adv (mm [ownR [] (intE .i64) 3 v24 l23] M) (mm [ownR [] (intE .i64) 3 v24 x36] M) w25 w37 ∧ InK .i64 x34) (0, l23) h29 ⟨hI26, (Adv.refl _ _), (by decide)⟩ (Sub.cons rfl (Sub.cons rfl (Sub.cons rfl (Sub.cons rfl (Sub.cons rfl (Sub.cons rfl (Sub.cons rfl (Sub.nil _)))))))) ?_
    rintro ⟨x34, x36⟩ w37 ⟨hI38, hA39, r35⟩ y40 h41 hR42
    refine cw_seq (cw_regF ?_)
    refine s_lss rfl rfl rfl ?_
    refine Reg.nil ?_
    refine cw_seq ?_
    refine cw_cond rfl (fun hc43 => ?_) (fun hc43 => ?_)
    ·replace h41 := cdT hc43 h41
     refine cw_skip ?_
     obtain ⟨j44, h45, h41⟩ := bnd h41
     refine cw_sub (L := [(1, _), (2, _), (3, _), (7, _), (8, _), (32, _), (33, _)]) (Sub.cons rfl (Sub.cons rfl (Sub.cons rfl (Sub.cons rfl (Sub.cons rfl (Sub.cons rfl (Sub.cons rfl (Sub.nil _)))))))) ?_
     refine cw_seqD 0 (ι := (List Int)) (fun x46 => []) (fun x46 => fun w47 => Hp w [] M [ownR [] (intE .i64) 3 v24 x46] w47 ∧ Adv (mm [ownR [] (intE .i64) 3 v24 x36] M) (mm [ownR [] (intE .i64) 3 v24 x46] M) w37 w47 ∧ x46 = j44) ?_ ?_
     ·skip
      refine cw_block ?_
      refine cw_seq (cw_regF ?_)
      refine s_mv rfl rfl ?_
      refine s_as rfl rfl ?_
      refine Reg.nil ?_
      refine cw_seq (cw_seq (cw_regF ?_))
      refine s_mv rfl rfl ?_
      refine s_mv rfl rfl ?_
      obtain ⟨y50, hy50, h45⟩ := bnd h45
      refine y_ia 0 hI38 rfl rfl rfl hy50 Try.underlying26 Try.sizeOf3 rfl ?_
      intro g51 cs52 hg53 hR54 hC55
      have khR54 := hR54
      obtain ⟨rfl, r56⟩ := hR54
      refine s_ld rfl (hC55.at 0 rfl) Try.isAgg3 rfl ?_
      refine s_eql rfl rfl rfl ?_
      refine Reg.nil ?_
      refine cw_cond rfl (fun hc57 => ?_) (fun hc57 => ?_)
      ·replace h45 := cdT hc57 h45
       refine cw_exit ?_
       refine exB_same ?_
       obtain rfl := Option.some.inj h45
       refine ⟨rfl, x36, ⟨hI38, (Adv.refl _ _), rfl⟩, Sub.cons rfl (Sub.cons rfl (Sub.cons rfl (Sub.cons rfl (Sub.cons rfl (Sub.cons rfl (Sub.cons rfl (Sub.nil _)))))))⟩
      ·replace h45 := cdF hc57 h45
       refine cw_skip (cw_seq (cw_regF ?_))
       refine s_as rfl rfl ?_
       refine s_as rfl rfl ?_
       refine Reg.nil ?_
       refine cw_seq (cw_seq (cw_regF ?_))
       refine s_lda rfl (hC6.adv ((Adv.of_ext e10).trans ((Adv.of_ext e16).trans (x22.trans (x27.trans hA39))))).cells Try.isAgg25 rfl Try.sizeOf25 rfl ?_
       refine s_mv rfl rfl ?_
       obtain ⟨z58, hz59, h45⟩ := bnd h45
       refine s_call rfl Try.call26 rfl ?_
       refine (C_ref06_Steps hI38.mlt f_m_0 (f_m_1.adv hI38.adv) (f_m_2.adv hI38.adv) f_m_3 r35 hz59).mono ?_
       rintro _ w60 ⟨v62, rfl, hf63, e61⟩
       refine ⟨_, rfl, ?_⟩
       have hI64 := hI38.ext e61
       refine s_len rfl hf63 Try.underlying26 rfl ?_
       refine s_mv rfl rfl ?_
       refine Reg.nil ?_
       obtain ⟨j65, h66, h45⟩ := bnd h45
       refine cw_sub (L := [(10, _), (11, _), (43, _), (44, _), (45, _), (1, _), (2, _), (3, _), (7, _), (8, _), (9, _), (32, _), (33, _)]) (Sub.cons rfl (Sub.cons rfl (Sub.cons rfl (Sub.cons rfl (Sub.cons rfl (Sub.cons rfl (Sub.cons rfl (Sub.cons rfl (Sub.cons rfl (Sub.cons rfl (Sub.cons rfl (Sub.cons rfl (Sub.cons rfl (Sub.nil _)))))))))))))) ?_
       refine cw_unitD 5 (ι := Int × Int) (fun ⟨x67, x69⟩ => [(10, Value.int .i64 x67), (11, Value.int .i64 x69)]) (fun ⟨x67, x69⟩ => fun w71 => w60 = w71 ∧ InK .i64 x67 ∧ InK .i64 x69 ∧ (x67, x69) = j65) ?_ ?_
       ·skip
        refine cw_block ?_
        refine cw_sub (L := [(10, _), (11, _), (45, _), (1, _), (2, _), (3, _), (7, _), (8, _), (9, _), (32, _), (33, _), (43, _), (44, _)]) (Sub.cons rfl (Sub.cons rfl (Sub.cons rfl (Sub.cons rfl (Sub.cons rfl (Sub.cons rfl (Sub.cons rfl (Sub.cons rfl (Sub.cons rfl (Sub.cons rfl (Sub.cons rfl (Sub.cons rfl (Sub.cons rfl (Sub.nil _)))))))))))))) ?_
        refine cw_loopM 3 (ι := Int × Int × Int) _ (fun ⟨x74, x76, x78⟩ => [(10, Value.int .i64 x74), (11, Value.int .i64 x76), (45, Value.int .i64 x78)]) (fun ⟨x74, x76, x78⟩ => (x74, x76, x78)) (fun ⟨x74, x76, x78⟩ => fun w80 => w60 = w80 ∧ InK .i64 x74 ∧ InK .i64 x76 ∧ InK .i64 x78) (0, 1000000, 0) h66 ⟨rfl, (by decide), (by decide), (by decide)⟩ (Sub.cons rfl (Sub.cons rfl (Sub.cons rfl (Sub.cons rfl (Sub.cons rfl (Sub.cons rfl (Sub.cons rfl (Sub.cons rfl (Sub.cons rfl (Sub.cons rfl (Sub.cons rfl (Sub.cons rfl (Sub.cons rfl (Sub.nil _)))))))))))))) ?_
        rintro ⟨x74, x76, x78⟩ _ ⟨rfl, r75, r77, r79⟩ y83 h84 hR85
        refine cw_seq (cw_regF ?_)
        refine s_lss rfl rfl rfl ?_
        refine Reg.nil ?_
        refine cw_seq ?_
        refine cw_cond rfl (fun hc86 => ?_) (fun hc86 => ?_)
        ·replace h84 := cdT hc86 h84
         refine cw_skip ?_
         obtain ⟨j87, h88, h84⟩ := bnd h84
         refine cw_sub (L := [(10, _), (11, _), (1, _), (2, _), (3, _), (7, _), (8, _), (9, _), (32, _), (33, _), (43, _), (44, _), (45, _)]) (Sub.cons rfl (Sub.cons rfl (Sub.cons rfl (Sub.cons rfl (Sub.cons rfl (Sub.cons rfl (Sub.cons rfl (Sub.cons rfl (Sub.cons rfl (Sub.cons rfl (Sub.cons rfl (Sub.cons rfl (Sub.cons rfl (Sub.nil _)))))))))))))) ?_
         refine cw_seqD 2 (ι := Int × Int) (fun ⟨x89, x91⟩ => [(10, Value.int .i64 x89), (11, Value.int .i64 x91)]) (fun ⟨x89, x91⟩ => fun w93 => w60 = w93 ∧ InK .i64 x89 ∧ InK .i64 x91 ∧ (x89, x91) = j87) ?_ ?_
         ·skip
          refine cw_block ?_
          refine cw_seq (cw_regF ?_)
          obtain ⟨y96, hy96, h88⟩ := bnd h88
          refine p_ia rfl rfl hf63 hy96 Try.underlying26 Try.sizeOf3 rfl ?_
          intro b97 o98 cs99 hR100 hC101
          obtain ⟨rfl, r102⟩ := hR100
          refine s_ld rfl (hC101.cells.at 0 rfl) Try.isAgg3 rfl ?_
          refine s_as rfl rfl ?_
          refine Reg.nil ?_
          refine cw_seq (cw_regF ?_)
          refine s_mv rfl rfl ?_
          refine s_mv rfl rfl ?_
          refine s_mv rfl rfl ?_
          obtain ⟨y103, hy103, h88⟩ := bnd h88
          refine p_ia rfl rfl (f_x_0.adv hI64.adv) hy103 Try.underlying26 Try.sizeOf3 rfl ?_
          intro b104 o105 cs106 hR107 hC108
          obtain ⟨rfl, r109⟩ := hR107
          refine s_ld rfl (hC108.cells.at 0 rfl) Try.isAgg3 rfl ?_
          refine s_leq rfl rfl rfl ?_
          refine Reg.nil ?_
          obtain ⟨j110, h111, h88⟩ := bnd h88
          refine cw_sub (L := [(10, _), (11, _), (13, _), (54, _), (1, _), (2, _), (3, _), (7, _), (8, _), (9, _), (32, _), (33, _), (43, _), (44, _), (45, _)]) (Sub.cons rfl (Sub.cons rfl (Sub.cons rfl (Sub.cons rfl (Sub.cons rfl (Sub.cons rfl (Sub.cons rfl (Sub.cons rfl (Sub.cons rfl (Sub.cons rfl (Sub.cons rfl (Sub.cons rfl (Sub.cons rfl (Sub.cons rfl (Sub.cons rfl (Sub.nil _)))))))))))))))) ?_
          refine cw_unitD 4 (ι := Int × Int) (fun ⟨x112, x114⟩ => [(10, Value.int .i64 x112), (11, Value.int .i64 x114)]) (fun ⟨x112, x114⟩ => fun w116 => w60 = w116 ∧ InK .i64 x112 ∧ InK .i64 x114 ∧ (x112, x114) = j110) ?_ ?_
          ·skip
           refine cw_cond rfl (fun hc119 => ?_) (fun hc119 => ?_)
           ·replace h111 := cdT hc119 h111
            refine cw_regF ?_
            refine s_mv rfl rfl ?_
            refine s_mv rfl rfl ?_
            refine s_max rfl rfl rfl ?_
            refine s_as rfl rfl ?_
            refine Reg.nil ?_
            obtain rfl := Option.some.inj h111
            refine ⟨rfl, (max x74 y96, x76), ⟨rfl, (InK.imax r75 r102), r77, rfl⟩, Sub.cons rfl (Sub.cons rfl (Sub.cons rfl (Sub.cons rfl (Sub.cons rfl (Sub.cons rfl (Sub.cons rfl (Sub.cons rfl (Sub.cons rfl (Sub.cons rfl (Sub.cons rfl (Sub.cons rfl (Sub.cons rfl (Sub.nil _)))))))))))))⟩
           ·replace h111 := cdF hc119 h111
            refine cw_regF ?_
            refine s_mv rfl rfl ?_
            refine s_mv rfl rfl ?_
            obtain ⟨n120, hn120, h111⟩ := bnd h111
            replace hn120 := chk_out hn120
            refine p_sub rfl rfl rfl hn120 ?_
            refine s_min rfl rfl rfl ?_
            refine s_as rfl rfl ?_
            refine Reg.nil ?_
            obtain rfl := Option.some.inj h111
            refine ⟨rfl, (x74, min x76 n120), ⟨rfl, r75, (InK.imin r77 hn120.2), rfl⟩, Sub.cons rfl (Sub.cons rfl (Sub.cons rfl (Sub.cons rfl (Sub.cons rfl (Sub.cons rfl (Sub.cons rfl (Sub.cons rfl (Sub.cons rfl (Sub.cons rfl (Sub.cons rfl (Sub.cons rfl (Sub.cons rfl (Sub.nil _)))))))))))))⟩
          ·skip
           rintro ⟨x112, x114⟩ _ ⟨rfl, r113, r115, rfl⟩
           obtain rfl := Option.some.inj h88
           refine ⟨rfl, (x112, x114), ⟨rfl, r113, r115, rfl⟩, Sub.cons rfl (Sub.cons rfl (Sub.cons rfl (Sub.cons rfl (Sub.cons rfl (Sub.cons rfl (Sub.cons rfl (Sub.cons rfl (Sub.cons rfl (Sub.cons rfl (Sub.cons rfl (Sub.cons rfl (Sub.cons rfl (Sub.nil _)))))))))))))⟩
         ·skip
          rintro ⟨x89, x91⟩ _ ⟨rfl, r90, r92, rfl⟩
          refine cw_regF ?_
          obtain ⟨n121, hn121, h84⟩ := bnd h84
          replace hn121 := chk_out hn121
          refine p_add rfl rfl rfl hn121 ?_
          refine s_mv rfl rfl ?_
          refine Reg.nil ?_
          obtain rfl := Option.some.inj h84
          refine ⟨rfl, (x89, x91, n121), ⟨⟨rfl, r90, r92, hn121.2⟩, rfl⟩, Sub.cons rfl (Sub.cons rfl (Sub.cons rfl (Sub.cons rfl (Sub.cons rfl (Sub.cons rfl (Sub.cons rfl (Sub.cons rfl (Sub.cons rfl (Sub.cons rfl (Sub.cons rfl (Sub.cons rfl (Sub.cons rfl (Sub.nil _)))))))))))))⟩
        ·replace h84 := cdF hc86 h84
         refine cw_exit ?_
         refine exB_same ?_
         obtain rfl := Option.some.inj h84
         obtain rfl := hR85 _ rfl
         refine ⟨rfl, (x74, x76), ⟨rfl, r75, r77, rfl⟩, Sub.cons rfl (Sub.cons rfl (Sub.cons rfl (Sub.cons rfl (Sub.cons rfl (Sub.cons rfl (Sub.cons rfl (Sub.cons rfl (Sub.cons rfl (Sub.cons rfl (Sub.nil _))))))))))⟩
       ·skip
        rintro ⟨x67, x69⟩ _ ⟨rfl, r68, r70, rfl⟩
        refine cw_regF ?_
        refine s_mv rfl rfl ?_
        refine s_mv rfl rfl ?_
        refine s_mv rfl rfl ?_
        refine s_mv rfl rfl ?_
        refine s_mv rfl rfl ?_
        obtain ⟨z122, hz123, h45⟩ := bnd h45
        refine s_call rfl Try.call27 rfl ?_
        refine (C_law06_at hI64.mlt (f_by__0.adv hI64.adv) r35 hz123).mono ?_
        rintro _ w124 ⟨rfl, r126, e125⟩
        refine ⟨_, rfl, ?_⟩
        have hI127 := hI64.ext e125
        obtain ⟨n128, hn128, h45⟩ := bnd h45
        replace hn128 := chk_out hn128
        refine p_cvt rfl Try.underlying65 Try.underlying3 rfl hn128 ?_
        refine s_mv rfl rfl ?_
        refine s_mv rfl rfl ?_
        obtain ⟨n129, hn129, h45⟩ := bnd h45
        replace hn129 := chk_out hn129
        refine p_sub rfl rfl rfl hn129 ?_
        obtain ⟨n130, hn130, h45⟩ := bnd h45
        replace hn130 := chk_out hn130
        refine p_add rfl rfl rfl hn130 ?_
        obtain ⟨n131, hn131, h45⟩ := bnd h45
        have kn131 := remO_out hn131
        refine p_rem rfl rfl rfl kn131 ?_
        obtain ⟨n132, hn132, h45⟩ := bnd h45
        replace hn132 := chk_out hn132
        refine p_add rfl rfl rfl hn132 ?_
        obtain ⟨y133, hy133, h45⟩ := bnd h45
        refine y_ia 0 hI127 rfl rfl rfl hy133 Try.underlying26 Try.sizeOf3 rfl ?_
        intro g134 cs135 hg136 hR137 hC138
        have khR137 := hR137
        obtain ⟨rfl, r139⟩ := hR137
        obtain ⟨l140, hl140, h45⟩ := bnd h45
        refine y_sto 0 (E := (intE .i64)) (o := 0) hI127 rfl rfl rfl rfl hg136 hl140 ⟨rfl, r139⟩ hC138 ⟨rfl, hn132.2⟩ rfl Try.sizeOf3 rfl (one1 rfl one0) ?_
        intro w141 hI142 x143
        refine Reg.nil ?_
        obtain rfl := Option.some.inj h45
        refine ⟨rfl, l140, ⟨hI142, ((Adv.of_ext e61).trans ((Adv.of_ext e125).trans x143)), rfl⟩, Sub.cons rfl (Sub.cons rfl (Sub.cons rfl (Sub.cons rfl (Sub.cons rfl (Sub.cons rfl (Sub.cons rfl (Sub.nil _)))))))⟩
     ·skip
      rintro x46 w47 ⟨hI48, hA49, rfl⟩
      refine cw_regF ?_
      obtain ⟨n144, hn144, h41⟩ := bnd h41
      replace hn144 := chk_out hn144
      refine p_add rfl rfl rfl hn144 ?_
      refine s_mv rfl rfl ?_
      refine Reg.nil ?_
      obtain rfl := Option.some.inj h41
      refine ⟨rfl, (n144, x46), ⟨⟨hI48, (hA39.trans hA49), hn144.2⟩, rfl⟩, Sub.cons rfl (Sub.cons rfl (Sub.cons rfl (Sub.cons rfl (Sub.cons rfl (Sub.cons rfl (Sub.cons rfl (Sub.nil _)))))))⟩
    ·replace h41 := cdF hc43 h41
     refine cw_exit ?_
     refine exB_same ?_
     obtain rfl := Option.some.inj h41
     obtain rfl := hR42 _ rfl
     refine ⟨rfl, x36, ⟨hI38, hA39, rfl⟩, Sub.cons rfl (Sub.cons rfl (Sub.cons rfl (Sub.cons rfl (Sub.nil _))))⟩
   ·skip
    rintro x30 w31 ⟨hI32, hA33, rfl⟩
    refine cw_seq (cw_regF ?_)
    refine s_lda rfl (hC6.adv ((Adv.of_ext e10).trans ((Adv.of_ext e16).trans (x22.trans (x27.trans hA33))))).cells Try.isAgg25 rfl Try.sizeOf25 rfl ?_
    refine s_mv rfl rfl ?_
    obtain ⟨⟨z145, z146, z147⟩, hz148, h⟩ := bnd h
    refine s_call rfl Try.call14 rfl ?_
    refine (C_score_Score hI32.mlt f_m_0 (f_m_1.adv hI32.adv) (f_m_2.adv hI32.adv) f_m_3 (f_x_0.adv hI32.adv) hz148).mono ?_
    rintro _ w149 ⟨rfl, r151, r152, e150⟩
    refine ⟨_, rfl, ?_⟩
    have hI153 := hI32.ext e150
    refine s_mv rfl rfl ?_
    refine s_xt rfl rfl rfl ?_
    refine s_xt rfl rfl rfl ?_
    refine s_xt rfl rfl rfl ?_
    refine s_as rfl rfl ?_
    refine s_as rfl rfl ?_
    refine s_as rfl rfl ?_
    refine Reg.nil ?_
    refine cw_seq (cw_regF ?_)
    refine s_lda rfl (hC6.adv ((Adv.of_ext e10).trans ((Adv.of_ext e16).trans (x22.trans (x27.trans (hA33.trans (Adv.of_ext e150))))))).cells Try.isAgg25 rfl Try.sizeOf25 rfl ?_
    refine s_mv rfl rfl ?_
    obtain ⟨⟨z154, z155, z156⟩, hz157, h⟩ := bnd h
    refine s_call rfl Try.call14 rfl ?_
    refine (C_score_Score (hI153.sel [] rfl).mlt f_m_0 ((f_m_1.adv hI153.adv).adv (Hp.selA (σ := [ownR [] (intE .i64) 3 v24 x30]) [])) ((f_m_2.adv hI153.adv).adv (Hp.selA (σ := [ownR [] (intE .i64) 3 v24 x30]) [])) f_m_3 (hI153.lendRd [] 0 rfl rfl) hz157).mono ?_
    rintro _ w158 ⟨rfl, r160, r161, e159⟩
    refine ⟨_, rfl, ?_⟩
    have hI162 := hI153.ext e159
    refine s_mv rfl rfl ?_
    refine s_xt rfl rfl rfl ?_
    refine s_xt rfl rfl rfl ?_
    refine s_xt rfl rfl rfl ?_
    refine s_as rfl rfl ?_
    refine s_as rfl rfl ?_
    refine s_as rfl rfl ?_
    refine Reg.nil ?_
    obtain ⟨j163, h164, h⟩ := bnd h
    refine cw_sub (L := [(7, _), (14, _), (15, _), (16, _), (17, _), (18, _), (19, _)]) (Sub.cons rfl (Sub.cons rfl (Sub.cons rfl (Sub.cons rfl (Sub.cons rfl (Sub.cons rfl (Sub.cons rfl (Sub.nil _)))))))) ?_
    refine cw_seqD 7 (ι := Bool) (fun x165 => [(6, Value.bool x165)]) (fun x165 => fun w166 => w158 = w166 ∧ x165 = j163) ?_ ?_
    ·skip
     refine cw_regF ?_
     refine s_mv rfl rfl ?_
     refine s_mv rfl rfl ?_
     refine Reg.gsplit (t := 93) rfl (fun hg169 => ?_) (fun hg169 => ?_)
     ·replace h164 := cdT hg169 h164
      refine Reg.take rfl rfl ?_
      refine s_mv rfl rfl ?_
      refine Reg.take rfl rfl ?_
      refine s_eql rfl rfl rfl ?_
      refine s_pkT rfl rfl rfl ?_
      refine s_mv rfl rfl ?_
      refine Reg.gsplit (t := 97) rfl (fun hg170 => ?_) (fun hg170 => ?_)
      ·replace h164 := cdT hg170 h164
       refine Reg.take rfl rfl ?_
       refine s_mv rfl rfl ?_
       refine Reg.take rfl rfl ?_
       refine s_eql rfl rfl rfl ?_
       refine s_pkT rfl rfl rfl ?_
       refine s_mv rfl rfl ?_
       refine Reg.gsplit (t := 101) rfl (fun hg171 => ?_) (fun hg171 => ?_)
       ·replace h164 := cdT hg171 h164
        refine Reg.take rfl rfl ?_
        refine s_mv rfl rfl ?_
        refine Reg.take rfl rfl ?_
        refine s_mv rfl rfl ?_
        refine Reg.take rfl rfl ?_
        refine s_eql rfl rfl rfl ?_
        refine s_pkT rfl rfl rfl ?_
        refine s_mv rfl rfl ?_
        refine Reg.gsplit (t := 106) rfl (fun hg172 => ?_) (fun hg172 => ?_)
        ·replace h164 := cdT hg172 h164
         refine Reg.take rfl rfl ?_
         refine s_mv rfl rfl ?_
         refine Reg.take rfl rfl ?_
         refine s_mv rfl rfl ?_
         refine Reg.take rfl rfl ?_
         refine s_eqB rfl rfl rfl Try.underlying4 ?_
         refine s_pkT rfl rfl rfl ?_
         refine s_as rfl rfl ?_
         refine Reg.nil ?_
         obtain rfl := Option.some.inj h164
         refine ⟨rfl, (z146 == z155), ⟨rfl, rfl⟩, Sub.cons rfl (Sub.nil _)⟩
        ·replace h164 := cdF hg172 h164
         refine Reg.pass rfl rfl rfl rfl ?_
         refine Reg.pass rfl rfl rfl rfl ?_
         refine Reg.pass rfl rfl rfl rfl ?_
         refine s_pkF rfl rfl rfl ?_
         refine s_as rfl rfl ?_
         refine Reg.nil ?_
         obtain rfl := Option.some.inj h164
         refine ⟨rfl, false, ⟨rfl, rfl⟩, Sub.cons rfl (Sub.nil _)⟩
       ·replace h164 := cdF hg171 h164
        refine Reg.pass rfl rfl rfl rfl ?_
        refine Reg.pass rfl rfl rfl rfl ?_
        refine Reg.pass rfl rfl rfl rfl ?_
        refine s_pkF rfl rfl rfl ?_
        refine s_mv rfl rfl ?_
        refine Reg.pass rfl rfl rfl rfl ?_
        refine Reg.pass rfl rfl rfl rfl ?_
        refine Reg.pass rfl rfl rfl rfl ?_
        refine s_pkF rfl rfl rfl ?_
        refine s_as rfl rfl ?_
        refine Reg.nil ?_
        obtain rfl := Option.some.inj h164
        refine ⟨rfl, false, ⟨rfl, rfl⟩, Sub.cons rfl (Sub.nil _)⟩
      ·replace h164 := cdF hg170 h164
       refine Reg.pass rfl rfl rfl rfl ?_
       refine Reg.pass rfl rfl rfl rfl ?_
       refine s_pkF rfl rfl rfl ?_
       refine s_mv rfl rfl ?_
       refine Reg.pass rfl rfl rfl rfl ?_
       refine Reg.pass rfl rfl rfl rfl ?_
       refine Reg.pass rfl rfl rfl rfl ?_
       refine s_pkF rfl rfl rfl ?_
       refine s_mv rfl rfl ?_
       refine Reg.pass rfl rfl rfl rfl ?_
       refine Reg.pass rfl rfl rfl rfl ?_
       refine Reg.pass rfl rfl rfl rfl ?_
       refine s_pkF rfl rfl rfl ?_
       refine s_as rfl rfl ?_
       refine Reg.nil ?_
       obtain rfl := Option.some.inj h164
       refine ⟨rfl, false, ⟨rfl, rfl⟩, Sub.cons rfl (Sub.nil _)⟩
     ·replace h164 := cdF hg169 h164
      refine Reg.pass rfl rfl rfl rfl ?_
      refine Reg.pass rfl rfl rfl rfl ?_
      refine s_pkF rfl rfl rfl ?_
      refine s_mv rfl rfl ?_
      refine Reg.pass rfl rfl rfl rfl ?_
      refine Reg.pass rfl rfl rfl rfl ?_
      refine s_pkF rfl rfl rfl ?_
      refine s_mv rfl rfl ?_
      refine Reg.pass rfl rfl rfl rfl ?_
      refine Reg.pass rfl rfl rfl rfl ?_
      refine Reg.pass rfl rfl rfl rfl ?_
      refine s_pkF rfl rfl rfl ?_
      refine s_mv rfl rfl ?_
      refine Reg.pass rfl rfl rfl rfl ?_
      refine Reg.pass rfl rfl rfl rfl ?_
      refine Reg.pass rfl rfl rfl rfl ?_
      refine s_pkF rfl rfl rfl ?_
      refine s_as rfl rfl ?_
      refine Reg.nil ?_
      obtain rfl := Option.some.inj h164
      refine ⟨rfl, false, ⟨rfl, rfl⟩, Sub.cons rfl (Sub.nil _)⟩
    ·skip
     rintro x165 _ ⟨rfl, rfl⟩
     refine cw_ret ?_
     obtain rfl := Option.some.inj h
     refine fin1 Try.results6 rfl ?_
     exact ⟨rfl, hI162.kp⟩
end Go.Proofs.Ytecmlmngcnionaa
namespace Go.Proofs.Ytecmlmngcnionaa
open Go Go.Sx
namespace S
theorem p_ScoreBins (m : Model) (x by_ : List Int) (hby : U32 by_) : P.law06_ScoreBins m x by_ = some true := by
  apply Ret.yes
  unfold P.law06_ScoreBins
  rw [show (Model.mk m.traits m.cards m.trees m.need) = m from rfl]
  refine Ret.bind (Ret.val p_alive (Ret.condF rfl (Ret.bind (r_ready (fun hs hm hx => ?_) (Ret.condT rfl (Ret.ok rfl))))))
  refine Ret.condF rfl ?_
  obtain ⟨hl, hv⟩ := valuesOk_iff.1 hx
  have ht := (modelOk_iff.1 hm).2.1
  refine Ret.bind (Ret.appo (by simp; omega) (by simp; omega) ?_)
  rw [List.nil_append]
  refine Ret.bind (Ret.loop (fun t : Int × List Int => ∃ n : Nat, t.1 = n ∧ n ≤ x.length ∧ t.2.length = x.length ∧ (∀ (j : Nat) a b, x[j]? = some a → t.2[j]? = some b → Alike m j a b ∧ -1 ≤ b ∧ b ≤ 1000000) ∧ ∀ j, n ≤ j → t.2[j]? = x[j]?) (fun t => x.length - t.1.toNat) ⟨0, rfl, Nat.zero_le _, rfl, fun j a b ha hb => ?_, fun _ _ => rfl⟩ ?_)
  · rw [ha] at hb; cases hb
    exact ⟨Alike.refl .., hv j _ ha⟩
  · rintro ⟨i, y⟩ ⟨n, rfl, hn, hyl, hya, hyr⟩
    dsimp only at hyl hya hyr ⊢
    refine Ret.cond (fun h => ?_) fun h => ?_
    · have hlt : n < x.length := by have := of_decide_eq_true h; omega
      have hxn : x[n]? = some x[n] := List.getElem?_eq_getElem hlt
      have hyn : y[n]? = some x[n] := by rw [hyr n (Nat.le_refl _), hxn]
      have hr := hv n _ hxn
      refine Ret.bind (Ret.bind (Ret.ixo hyn ?_))
      refine Ret.cond (fun h1 => ?_) fun h1 => ?_
      · have e : x[n] = -1 := of_decide_eq_true h1
        refine Ret.ok (Ret.bind (Ret.chk (by omega) (Ret.next ⟨⟨n + 1, rfl, hlt, hyl, hya, fun j hj => hyr j (by omega)⟩, ?_⟩)))
        simp only; omega
      · have h1 := of_decide_eq_false h1
        refine Ret.bind (r_Steps hm (by omega) ?_)
        have hst : ∀ c ∈ stepsS m n (Span.mk 0 1000000), 0 ≤ c ∧ c ≤ 1000000 := fun c hc => steps_bd (by decide) hc
        have hLl := (p_stand m n (Span.mk 0 1000000) hm (by omega) (by decide)).2
        generalize hS : stepsS m n (Span.mk 0 1000000) = L at hst hLl
        refine Ret.bind (Ret.loop (fun t : Int × Int × Int => ∃ k : Nat, t.2.2 = k ∧ k ≤ L.length ∧ 0 ≤ t.1 ∧ t.1 ≤ x[n] ∧ x[n] ≤ t.2.1 ∧ t.2.1 ≤ 1000000 ∧ ∀ c ∈ L.take k, (c ≤ x[n] → c ≤ t.1) ∧ (x[n] < c → t.2.1 < c)) (fun t => L.length - t.2.2.toNat) ⟨0, rfl, Nat.zero_le _, by simp, by simp only; omega, by simp only; omega, by simp, by simp⟩ ?_)
        · rintro ⟨lo, hi, k⟩ ⟨k, rfl, hk, g1, g2, g3, g4, g5⟩
          dsimp only at g1 g2 g3 g4 g5 ⊢
          refine Ret.cond (fun h2 => ?_) fun h2 => ?_
          · have hkl : k < L.length := by have := of_decide_eq_true h2; omega
            have hc : L[k]? = some L[k] := List.getElem?_eq_getElem hkl
            have hcb := hst L[k] (List.getElem_mem hkl)
            have htk : ∀ (lo' hi' : Int), lo ≤ lo' → hi' ≤ hi → ((L[k] ≤ x[n] → L[k] ≤ lo') ∧ (x[n] < L[k] → hi' < L[k])) → ∀ c ∈ L.take (k + 1), (c ≤ x[n] → c ≤ lo') ∧ (x[n] < c → hi' < c) := fun lo' hi' e1 e2 e3 c hcm => by
              rw [List.take_add_one, hc] at hcm
              rcases List.mem_append.1 hcm with h | h
              · have := g5 c h
                constructor
                · intro h3; have := this.1 h3; omega
                · intro h3; have := this.2 h3; omega
              · have : c = L[k] := by simpa using h
                rw [this]; exact e3
            refine Ret.bind (Ret.bind (Ret.ixo hc (Ret.bind (Ret.ixo hxn (Ret.bind (Ret.cond (fun h3 => ?_) fun h3 => ?_))))))
            · have h3 := of_decide_eq_true h3
              refine Ret.ok (Ret.ok (Ret.bind (Ret.chk (by omega) (Ret.next ⟨⟨k + 1, rfl, hkl, ?_, ?_, g3, g4, htk (max lo L[k]) hi (by omega) (by omega) ⟨by omega, by omega⟩⟩, ?_⟩))))
              · simp only; omega
              · simp only; omega
              · simp only; omega
            · have h3 := of_decide_eq_false h3
              refine Ret.bind (Ret.chk (by omega) (Ret.ok (Ret.ok (Ret.bind (Ret.chk (by omega) (Ret.next ⟨⟨k + 1, rfl, hkl, g1, g2, ?_, ?_, htk lo (min hi (L[k] - 1)) (by omega) (by omega) ⟨by omega, by omega⟩⟩, ?_⟩))))))
              · simp only; omega
              · simp only; omega
              · simp only; omega
          · have hk2 : k = L.length := by have := of_decide_eq_false h2; omega
            subst hk2
            rw [List.take_length] at g5
            refine Ret.done ?_
            dsimp only
            refine Ret.bind (r_at hby (by omega) fun z hz1 hz2 => ?_)
            refine Ret.bind (Ret.chk (by omega) (Ret.bind (Ret.chk (by omega) (Ret.bind (Ret.chk (by omega) (Ret.bind (Ret.remO hz1 (by omega) ?_)))))))
            have hmod := mod_in hz1 (show 0 < hi - lo + 1 by omega)
            refine Ret.bind (Ret.chk (by omega) (Ret.bind (Ret.ixo hyn (Ret.bind (Ret.seto (by omega) (Ret.ok ?_))))))
            refine Ret.bind (Ret.chk (by omega) (Ret.next ⟨⟨n + 1, rfl, hlt, by simp [hyl], fun j a b ha hb => ?_, fun j hj => ?_⟩, ?_⟩))
            · rw [List.getElem?_set] at hb
              by_cases e : n = j
              · subst e
                rw [if_pos rfl, if_pos (by omega)] at hb
                rw [hxn] at ha
                cases ha; cases hb
                refine ⟨alike_of ⟨by omega, by omega⟩ ⟨by omega, by omega⟩ g1 g4 (by rw [hS]; exact g5), by omega, by omega⟩
              · rw [if_neg e] at hb
                exact hya j a b ha hb
            · dsimp only
              rw [List.getElem?_set_ne (by omega)]
              exact hyr j (by omega)
            · simp only; omega
    · have hn2 : n = x.length := by have := of_decide_eq_false h; omega
      refine Ret.done ?_
      have hsc : score m x = score m y := score_alike hm hl hyl fun t a b ha hb => (hya t a b ha hb).1
      have hvy : valuesOk m y = true := valuesOk_iff.2 ⟨by omega, fun j b hb => by
        have hj := get_lt hb
        exact (hya j _ b (List.getElem?_eq_getElem (by omega)) hb).2⟩
      refine Ret.bind (r_Score hs hm hx (Ret.bind (r_Score hs hm hvy ?_)))
      dsimp only
      rw [hsc]
      refine Ret.bind (Ret.condT rfl (Ret.condT (decide_eq_true rfl) (Ret.condT (decide_eq_true rfl) (Ret.condT (by simp) (Ret.ok (Ret.ok (by simp)))))))
end S
end Go.Proofs.Ytecmlmngcnionaa
