/-
  Part ScoreInside 1 of the texts that the statement's proof stands on: what memory holds, how code is walked, what the functions reckon. In the order in which they build.
-/

import Derived.Test.YtecmlmngcnionaaSc9
set_option linter.unusedVariables false
set_option maxRecDepth 20000
namespace Go.Proofs.Ytecmlmngcnionaa
open Go Go.Sx Go.RowKit
noncomputable def P.law06_ScoreInside (m : Model) (x : (List Span)) (by_ : (List Int)) : Option Bool :=
 Option.bind (P.law06_alive ) fun z7 => cond (!z7) (some false) (Option.bind (Option.bind (P.ref06_Great (Model.mk m.traits m.cards m.trees m.need)) fun z13 => cond z13 (some true) (Option.bind (P.ref06_Check (Model.mk m.traits m.cards m.trees m.need)) fun z19 => cond (!decide (z19 = 0)) (some true) (some (!decide ((x.length : Int) = m.traits))))) fun x26 => cond x26 (some z7) (Option.bind (loopM (S := (List Int) × (List Span) × (List Span) × Int) (R := ((List Int) × (List Span) × (List Span)) ⊕ (Bool)) (fun (x28, x29, x30, x31) => cond (decide (x31 < (x.length : Int))) (Option.bind (ixo x x31) fun y33 => Option.bind (cond (decide (y33.lo < 0)) (some true) (cond (decide (y33.hi < y33.lo)) (some true) (some (decide (1000000 < y33.hi))))) fun x52 => cond x52 (some (.inr (.inr z7))) (Option.bind (chk .i64 (3 * x31)) fun n54 => Option.bind (P.law06_at by_ n54) fun z55 => Option.bind (chk .i64 z55) fun n60 => Option.bind (chk .i64 (y33.hi - y33.lo)) fun n61 => Option.bind (chk .i64 (n61 + 1)) fun n62 => Option.bind (remO n60 n62) fun n63 => Option.bind (chk .i64 (y33.lo + n63)) fun n64 => Option.bind (appo 8 x28 ([n64] : List Int)) fun l74 => Option.bind (chk .i64 (3 * x31)) fun n79 => Option.bind (chk .i64 (n79 + 1)) fun n80 => Option.bind (P.law06_at by_ n80) fun z81 => Option.bind (chk .i64 z81) fun n86 => Option.bind (chk .i64 (n64 - y33.lo)) fun n87 => Option.bind (chk .i64 (n87 + 1)) fun n88 => Option.bind (remO n86 n88) fun n89 => Option.bind (chk .i64 (n64 - n89)) fun n90 => Option.bind (chk .i64 (3 * x31)) fun n91 => Option.bind (chk .i64 (n91 + 2)) fun n92 => Option.bind (P.law06_at by_ n92) fun z93 => Option.bind (chk .i64 z93) fun n98 => Option.bind (chk .i64 (y33.hi - n64)) fun n99 => Option.bind (chk .i64 (n99 + 1)) fun n100 => Option.bind (remO n98 n100) fun n101 => Option.bind (chk .i64 (n64 + n101)) fun n102 => Option.bind (P.law06_span n90 n102) fun z103 => Option.bind (appo 16 x29 ([z103] : List Span)) fun l122 => Option.bind (P.law06_span n64 n64) fun z133 => Option.bind (appo 16 x30 ([z133] : List Span)) fun l146 => Option.bind (chk .i64 (x31 + 1)) fun n151 => some (.inl (l74, l122, l146, n151)))) (some (.inr (.inl (x28, x29, x30))))) ([], [], [], 0)) fun j152 => Sum.elim (fun (x153, x154, x155) => Option.bind (P.score_Score (Model.mk m.traits m.cards m.trees m.need) x153) fun (z156, z157, z158) => Option.bind (P.score_Between (Model.mk m.traits m.cards m.trees m.need) x) fun (z165, z166) => Option.bind (P.score_Between (Model.mk m.traits m.cards m.trees m.need) x154) fun (z183, z184) => Option.bind (P.score_Between (Model.mk m.traits m.cards m.trees m.need) x155) fun (z201, z202) => Option.bind (cond z7 (cond (decide (z158 = 0)) (cond (decide (z166 = 0)) (cond (decide (z184 = 0)) (cond (decide (z202 = 0)) (cond (decide (z165.lo ≤ z183.lo)) (cond (decide (z183.lo ≤ z156)) (cond (decide (z156 ≤ z183.hi)) (cond (decide (z183.hi ≤ z165.hi)) (Option.bind (P.law06_span z156 z156) fun z228 => some (decide ((Span.mk z201.lo z201.hi) = z228))) (some false)) (some false)) (some false)) (some false)) (some false)) (some false)) (some false)) (some false)) (some false)) fun x264 => some x264) (fun r265 => some r265)  j152))
theorem C_law06_ScoreInside {M : List Nat} {w : World} (hM : MLt M w) {m : Model} {v_m_1 : Value} {v_m_2 : Value} (f_m_0 : InK .i64 m.traits) (f_m_1 : RdS CardE M w v_m_1 m.cards) (f_m_2 : RdS TreeE M w v_m_2 m.trees) (f_m_3 : InK .i64 m.need) {x : (List Span)} {v_x_0 : Value} (f_x_0 : RdS SpanE M w v_x_0 x) {by_ : (List Int)} {v_by__0 : Value} (f_by__0 : RdS (intE .u32) M w v_by__0 by_) {r0 : Bool} (h : P.law06_ScoreInside m x by_ = some r0) :
  Calls Try.prog 8 (List.toArray [Value.agg (List.toArray [Value.int .i64 m.traits, v_m_1, v_m_2, Value.int .i64 m.need]), v_x_0, v_by__0]) w fun e w' => e = .returned (Value.bool r0) ∧ Ext w w' := by
 have hI := Hp.start (Mu := []) hM
 refine calls_cw Try.func8 rfl Try.ntmps8 rfl ?_
 refine cw_seq (cw_regF ?_)
 refine y_box hI rfl rfl rfl ?_
 intro b1 w2 hI3 x4
 have hC6 := hI3.freezeRow 0 rfl
 have hI5 := hI3.erase 0
 refine s_as rfl rfl ?_
 refine Reg.nil ?_
 refine cw_seq (cw_regF ?_)
 obtain ⟨z7, hz8, h⟩ := bnd h
 refine s_call rfl Try.call24 rfl ?_
 refine (C_law06_alive hI5.mlt hz8).mono ?_
 rintro _ w9 ⟨rfl, e10⟩
 refine ⟨_, rfl, ?_⟩
 have hI11 := hI5.ext e10
 refine s_as rfl rfl ?_
 refine Reg.nil ?_
 refine cw_seq (cw_seq (cw_regF ?_))
 refine s_mv rfl rfl ?_
 refine s_not rfl rfl ?_
 refine Reg.nil ?_
 refine cw_cond rfl (fun hc12 => ?_) (fun hc12 => ?_)
 ·replace h := cdT hc12 h
  refine cw_seq (cw_regF ?_)
  refine s_as rfl rfl ?_
  refine Reg.nil ?_
  refine cw_ret ?_
  obtain rfl := Option.some.inj h
  refine fin1 Try.results8 rfl ?_
  exact ⟨rfl, hI11.kp⟩
 ·replace h := cdF hc12 h
  refine cw_skip ?_
  refine cw_seq ?_
  obtain ⟨j13, h14, h⟩ := bnd h
  refine cw_sub (L := [(1, _), (2, _), (3, _), (7, _)]) (Sub.cons rfl (Sub.cons rfl (Sub.cons rfl (Sub.cons rfl (Sub.nil _))))) ?_
  refine cw_seqD 0 (ι := Bool) (fun x15 => [(39, Value.bool x15)]) (fun x15 => fun w16 => Hp w [] M [] w16 ∧ Adv (mm [] M) (mm [] M) w9 w16 ∧ x15 = j13) ?_ ?_
  ·skip
   refine cw_regF ?_
   refine s_lda rfl (hC6.adv (Adv.of_ext e10)).cells Try.isAgg25 rfl Try.sizeOf25 rfl ?_
   obtain ⟨z19, hz20, h14⟩ := bnd h14
   refine s_call rfl Try.call12 rfl ?_
   refine (C_ref06_Great hI11.mlt f_m_0 (f_m_1.adv hI11.adv) (f_m_2.adv hI11.adv) f_m_3 hz20).mono ?_
   rintro _ w21 ⟨rfl, e22⟩
   refine ⟨_, rfl, ?_⟩
   have hI23 := hI11.ext e22
   refine s_mv rfl rfl ?_
   refine Reg.gsplit (t := 28) rfl (fun hg24 => ?_) (fun hg24 => ?_)
   ·replace h14 := cdT hg24 h14
    refine Reg.pass rfl rfl rfl rfl ?_
    refine Reg.pass rfl rfl rfl rfl ?_
    refine Reg.pass rfl rfl rfl rfl ?_
    refine s_pkT rfl rfl rfl ?_
    refine s_mv rfl rfl ?_
    refine Reg.pass rfl rfl rfl rfl ?_
    refine Reg.pass rfl rfl rfl rfl ?_
    refine Reg.pass rfl rfl rfl rfl ?_
    refine Reg.pass rfl rfl rfl rfl ?_
    refine Reg.pass rfl rfl rfl rfl ?_
    refine s_pkT rfl rfl rfl ?_
    refine Reg.nil ?_
    obtain rfl := Option.some.inj h14
    refine ⟨rfl, true, ⟨hI23, (Adv.of_ext e22), rfl⟩, Sub.cons rfl (Sub.cons rfl (Sub.cons rfl (Sub.cons rfl (Sub.cons rfl (Sub.nil _)))))⟩
   ·replace h14 := cdF hg24 h14
    refine Reg.take rfl rfl ?_
    refine s_lda rfl (hC6.adv ((Adv.of_ext e10).trans (Adv.of_ext e22))).cells Try.isAgg25 rfl Try.sizeOf25 rfl ?_
    refine Reg.take rfl rfl ?_
    obtain ⟨z25, hz26, h14⟩ := bnd h14
    refine s_call rfl Try.call19 rfl ?_
    refine (C_ref06_Check hI23.mlt f_m_0 (f_m_1.adv hI23.adv) (f_m_2.adv hI23.adv) f_m_3 hz26).mono ?_
    rintro _ w27 ⟨rfl, r29, e28⟩
    refine ⟨_, rfl, ?_⟩
    have hI30 := hI23.ext e28
    refine Reg.take rfl rfl ?_
    refine s_neq rfl rfl rfl ?_
    refine s_pkF rfl rfl rfl ?_
    refine s_mv rfl rfl ?_
    refine Reg.gsplit (t := 33) rfl (fun hg31 => ?_) (fun hg31 => ?_)
    ·replace h14 := cdT hg31 h14
     refine Reg.pass rfl rfl rfl rfl ?_
     refine Reg.pass rfl rfl rfl rfl ?_
     refine Reg.pass rfl rfl rfl rfl ?_
     refine Reg.pass rfl rfl rfl rfl ?_
     refine Reg.pass rfl rfl rfl rfl ?_
     refine s_pkT rfl rfl rfl ?_
     refine Reg.nil ?_
     obtain rfl := Option.some.inj h14
     refine ⟨rfl, true, ⟨hI30, ((Adv.of_ext e22).trans (Adv.of_ext e28)), rfl⟩, Sub.cons rfl (Sub.cons rfl (Sub.cons rfl (Sub.cons rfl (Sub.cons rfl (Sub.nil _)))))⟩
    ·replace h14 := cdF hg31 h14
     refine Reg.take rfl rfl ?_
     refine s_mv rfl rfl ?_
     refine Reg.take rfl rfl ?_
     refine s_len rfl (f_x_0.adv hI30.adv) Try.underlying43 rfl ?_
     refine Reg.take rfl rfl ?_
     refine s_fa rfl Try.underlying25 rfl Try.sizeOf3 rfl ?_
     refine Reg.take rfl rfl ?_
     refine s_ld rfl ((hC6.adv ((Adv.of_ext e10).trans ((Adv.of_ext e22).trans (Adv.of_ext e28)))).cells.at 0 rfl) Try.isAgg3 rfl ?_
     refine Reg.take rfl rfl ?_
     refine s_neq rfl rfl rfl ?_
     refine s_pkF rfl rfl rfl ?_
     refine Reg.nil ?_
     obtain rfl := Option.some.inj h14
     refine ⟨rfl, !decide ((x.length : Int) = m.traits), ⟨hI30, ((Adv.of_ext e22).trans (Adv.of_ext e28)), rfl⟩, Sub.cons rfl (Sub.cons rfl (Sub.cons rfl (Sub.cons rfl (Sub.cons rfl (Sub.nil _)))))⟩
  ·skip
   rintro x15 w16 ⟨hI17, hA18, rfl⟩
   refine cw_cond rfl (fun hc32 => ?_) (fun hc32 => ?_)
   ·replace h := cdT hc32 h
    refine cw_seq (cw_regF ?_)
    refine s_mv rfl rfl ?_
    refine s_as rfl rfl ?_
    refine Reg.nil ?_
    refine cw_ret ?_
    obtain rfl := Option.some.inj h
    refine fin1 Try.results8 rfl ?_
    exact ⟨rfl, hI17.kp⟩
   ·replace h := cdF hc32 h
    refine cw_skip (cw_seq (cw_regF ?_))
    refine s_as rfl rfl ?_
    refine Reg.nil ?_
    refine cw_seq (cw_regF ?_)
    refine s_as rfl rfl ?_
    refine s_as rfl rfl ?_
    refine Reg.nil ?_
    refine cw_seq (cw_seq (cw_regF ?_))
    refine s_mv rfl rfl ?_
    refine s_len rfl (f_x_0.adv hI17.adv) Try.underlying43 rfl ?_
    refine s_mv rfl rfl ?_
    refine Reg.nil ?_
    obtain ⟨j33, h34, h⟩ := bnd h
    refine cw_sub (L := [(2, _), (8, _), (9, _), (10, _), (41, _), (42, _), (43, _), (1, _), (3, _), (7, _)]) (Sub.cons rfl (Sub.cons rfl (Sub.cons rfl (Sub.cons rfl (Sub.cons rfl (Sub.cons rfl (Sub.cons rfl (Sub.cons rfl (Sub.cons rfl (Sub.cons rfl (Sub.nil _))))))))))) ?_
    refine cw_unitD 7 (ι := (List Int) × (List Span) × (List Span) × Value × Value × Value) (fun ⟨x35, x37, x39, v36, v38, v40⟩ => [(8, v36), (9, v38), (10, v40)]) (fun ⟨x35, x37, x39, v36, v38, v40⟩ => fun w41 => Hp w [] M [ownR [] (intE .i64) 3 v36 x35, ownR [] SpanE 45 v38 x37, ownR [] SpanE 45 v40 x39] w41 ∧ Adv (mm [] M) (mm [ownR [] (intE .i64) 3 v36 x35, ownR [] SpanE 45 v38 x37, ownR [] SpanE 45 v40 x39] M) w16 w41 ∧ (.inl (x35, x37, x39)) = j33) ?_ ?_
    ·skip
     refine cw_block ?_
     refine cw_sub (L := [(8, _), (9, _), (10, _), (43, _), (1, _), (2, _), (3, _), (7, _), (41, _), (42, _)]) (Sub.cons rfl (Sub.cons rfl (Sub.cons rfl (Sub.cons rfl (Sub.cons rfl (Sub.cons rfl (Sub.cons rfl (Sub.cons rfl (Sub.cons rfl (Sub.cons rfl (Sub.nil _))))))))))) ?_
     have hI55 := hI17.addNil (intE .i64) 3
     have hI56 := hI55.addNil SpanE 45
     have hI57 := hI56.addNil SpanE 45
     refine cw_loopM 4 (ι := (List Int) × (List Span) × (List Span) × Int × Value × Value × Value) _ (fun ⟨x44, x46, x48, x50, v45, v47, v49⟩ => [(8, v45), (9, v47), (10, v49), (43, Value.int .i64 x50)]) (fun ⟨x44, x46, x48, x50, v45, v47, v49⟩ => (x44, x46, x48, x50)) (fun ⟨x44, x46, x48, x50, v45, v47, v49⟩ => fun w52 => Hp w [] M [ownR [] (intE .i64) 3 v45 x44, ownR [] SpanE 45 v47 x46, ownR [] SpanE 45 v49 x48] w52 ∧ Adv (mm [] M) (mm [ownR [] (intE .i64) 3 v45 x44, ownR [] SpanE 45 v47 x46, ownR [] SpanE 45 v49 x48] M) w16 w52 ∧ InK .i64 x50) (([] : List Int), ([] : List Span), ([] : List Span), 0, (Value.slice none 0 0), (Value.slice none 0 0), (Value.slice none 0 0)) h34 ⟨(hI57.sel [2, 1, 0] rfl), (((Hp.addNilA (σ := []) (intE .i64) 3).trans ((Hp.addNilA (σ := [ownR [] (intE .i64) 3 (Value.slice none 0 0) ([] : List Int)]) SpanE 45).trans (Hp.addNilA (σ := [ownR [] SpanE 45 (Value.slice none 0 0) ([] : List Span), ownR [] (intE .i64) 3 (Value.slice none 0 0) ([] : List Int)]) SpanE 45))).trans (Hp.selA (σ := [ownR [] SpanE 45 (Value.slice none 0 0) ([] : List Span), ownR [] SpanE 45 (Value.slice none 0 0) ([] : List Span), ownR [] (intE .i64) 3 (Value.slice none 0 0) ([] : List Int)]) [2, 1, 0])), (by decide)⟩ (Sub.cons rfl (Sub.cons rfl (Sub.cons rfl (Sub.cons rfl (Sub.cons rfl (Sub.cons rfl (Sub.cons rfl (Sub.cons rfl (Sub.cons rfl (Sub.cons rfl (Sub.nil _))))))))))) ?_
     rintro ⟨x44, x46, x48, x50, v45, v47, v49⟩ w52 ⟨hI53, hA54, r51⟩ y58 h59 hR60
     refine cw_seq (cw_regF ?_)
     refine s_lss rfl rfl rfl ?_
     refine Reg.nil ?_
     refine cw_seq ?_
     refine cw_cond rfl (fun hc61 => ?_) (fun hc61 => ?_)
     ·replace h59 := cdT hc61 h59
      refine cw_skip ?_
      refine cw_seq ?_
      refine cw_block ?_
      refine cw_seq (cw_regF ?_)
      refine s_mv rfl rfl ?_
      obtain ⟨y62, hy62, h59⟩ := bnd h59
      refine p_ia rfl rfl (f_x_0.adv hI53.adv) hy62 Try.underlying43 Try.sizeOf45 rfl ?_
      intro b63 o64 cs65 hR66 hC67
      obtain ⟨rfl, r68, r69⟩ := SpanE_R.1 hR66
      refine s_lda rfl hC67.cells Try.isAgg45 rfl Try.sizeOf45 rfl ?_
      refine y_al hI53 Try.zeroValue45 rfl rfl ?_
      intro b70 w71 hI72 x73
      refine s_as rfl rfl ?_
      refine y_st 0 hI72 rfl rfl rfl rfl Try.sizeOf45 rfl rfl (one1 rfl (one1 rfl one0)) ?_
      intro w74 hI75 x76
      have hC78 := hI75.freezeRow 0 rfl
      have hI77 := hI75.erase 0
      refine Reg.nil ?_
      refine cw_seq ?_
      obtain ⟨j79, h80, h59⟩ := bnd h59
      refine cw_sub (L := [(1, _), (2, _), (3, _), (7, _), (8, _), (9, _), (10, _), (11, _), (12, _), (41, _), (42, _), (43, _)]) (Sub.cons rfl (Sub.cons rfl (Sub.cons rfl (Sub.cons rfl (Sub.cons rfl (Sub.cons rfl (Sub.cons rfl (Sub.cons rfl (Sub.cons rfl (Sub.cons rfl (Sub.cons rfl (Sub.cons rfl (Sub.nil _))))))))))))) ?_
      refine cw_seqD 0 (ι := Bool) (fun x81 => [(62, Value.bool x81)]) (fun x81 => fun w82 => w74 = w82 ∧ x81 = j79) ?_ ?_
      ·skip
       refine cw_regF ?_
       refine s_fa rfl Try.underlying45 rfl Try.sizeOf3 rfl ?_
       refine s_ld rfl (hC78.cells.at 0 rfl) Try.isAgg3 rfl ?_
       refine s_lss rfl rfl rfl ?_
       refine s_mv rfl rfl ?_
       refine Reg.gsplit (t := 51) rfl (fun hg85 => ?_) (fun hg85 => ?_)
       ·replace h80 := cdT hg85 h80
        refine Reg.pass rfl rfl rfl rfl ?_
        refine Reg.pass rfl rfl rfl rfl ?_
        refine Reg.pass rfl rfl rfl rfl ?_
        refine Reg.pass rfl rfl rfl rfl ?_
        refine Reg.pass rfl rfl rfl rfl ?_
        refine s_pkT rfl rfl rfl ?_
        refine s_mv rfl rfl ?_
        refine Reg.pass rfl rfl rfl rfl ?_
        refine Reg.pass rfl rfl rfl rfl ?_
        refine Reg.pass rfl rfl rfl rfl ?_
        refine s_pkT rfl rfl rfl ?_
        refine Reg.nil ?_
        obtain rfl := Option.some.inj h80
        refine ⟨rfl, true, ⟨rfl, rfl⟩, Sub.cons rfl (Sub.cons rfl (Sub.cons rfl (Sub.cons rfl (Sub.cons rfl (Sub.cons rfl (Sub.cons rfl (Sub.cons rfl (Sub.cons rfl (Sub.cons rfl (Sub.cons rfl (Sub.cons rfl (Sub.cons rfl (Sub.nil _)))))))))))))⟩
       ·replace h80 := cdF hg85 h80
        refine Reg.take rfl rfl ?_
        refine s_fa rfl Try.underlying45 rfl Try.sizeOf3 rfl ?_
        refine Reg.take rfl rfl ?_
        refine s_ld rfl (hC78.cells.at 0 rfl) Try.isAgg3 rfl ?_
        refine Reg.take rfl rfl ?_
        refine s_fa rfl Try.underlying45 rfl Try.sizeOf3 rfl ?_
        refine Reg.take rfl rfl ?_
        refine s_ld rfl (hC78.cells.at 1 rfl) Try.isAgg3 rfl ?_
        refine Reg.take rfl rfl ?_
        refine s_gtr rfl rfl rfl ?_
        refine s_pkF rfl rfl rfl ?_
        refine s_mv rfl rfl ?_
        refine Reg.gsplit (t := 58) rfl (fun hg86 => ?_) (fun hg86 => ?_)
        ·replace h80 := cdT hg86 h80
         refine Reg.pass rfl rfl rfl rfl ?_
         refine Reg.pass rfl rfl rfl rfl ?_
         refine Reg.pass rfl rfl rfl rfl ?_
         refine s_pkT rfl rfl rfl ?_
         refine Reg.nil ?_
         obtain rfl := Option.some.inj h80
         refine ⟨rfl, true, ⟨rfl, rfl⟩, Sub.cons rfl (Sub.cons rfl (Sub.cons rfl (Sub.cons rfl (Sub.cons rfl (Sub.cons rfl (Sub.cons rfl (Sub.cons rfl (Sub.cons rfl (Sub.cons rfl (Sub.cons rfl (Sub.cons rfl (Sub.cons rfl (Sub.nil _)))))))))))))⟩
        ·replace h80 := cdF hg86 h80
         refine Reg.take rfl rfl ?_
         refine s_fa rfl Try.underlying45 rfl Try.sizeOf3 rfl ?_
         refine Reg.take rfl rfl ?_
         refine s_ld rfl (hC78.cells.at 1 rfl) Try.isAgg3 rfl ?_
         refine Reg.take rfl rfl ?_
         refine s_gtr rfl rfl rfl ?_
         refine s_pkF rfl rfl rfl ?_
         refine Reg.nil ?_
         obtain rfl := Option.some.inj h80
         refine ⟨rfl, decide (1000000 < y62.hi), ⟨rfl, rfl⟩, Sub.cons rfl (Sub.cons rfl (Sub.cons rfl (Sub.cons rfl (Sub.cons rfl (Sub.cons rfl (Sub.cons rfl (Sub.cons rfl (Sub.cons rfl (Sub.cons rfl (Sub.cons rfl (Sub.cons rfl (Sub.cons rfl (Sub.nil _)))))))))))))⟩
      ·skip
       rintro x81 _ ⟨rfl, rfl⟩
       refine cw_cond rfl (fun hc87 => ?_) (fun hc87 => ?_)
       ·replace h59 := cdT hc87 h59
        refine cw_seq (cw_regF ?_)
        refine s_mv rfl rfl ?_
        refine s_as rfl rfl ?_
        refine Reg.nil ?_
        refine cw_ret ?_
        obtain rfl := Option.some.inj h59
        obtain rfl := hR60 _ rfl
        replace h := elimR h
        obtain rfl := Option.some.inj h
        refine fin1 Try.results8 rfl ?_
        exact ⟨rfl, hI77.kp⟩
       ·replace h59 := cdF hc87 h59
        refine cw_skip ?_
        refine cw_seq ?_
        refine cw_regT fol (by kernel_rfl) ?_
        refine s_fa rfl Try.underlying45 rfl Try.sizeOf3 rfl ?_
        refine s_ld rfl (hC78.cells.at 0 rfl) Try.isAgg3 rfl ?_
        refine s_mv rfl rfl ?_
        refine s_mv rfl rfl ?_
        obtain ⟨n88, hn88, h59⟩ := bnd h59
        replace hn88 := chk_out hn88
        refine p_mul rfl rfl rfl hn88 ?_
        obtain ⟨z89, hz90, h59⟩ := bnd h59
        refine s_callq rfl rfl Try.call27 rfl (fun w91 e92 => (C_law06_at (hI77.mlt.ext e92) ((f_by__0.adv hI77.adv).adv (Adv.of_ext e92)) hn88.2 hz90).mono (fun _ _ hq => ⟨hq.1, hq.2.2⟩)) ?_
        have r93 := Calls.fact (C_law06_at hI77.mlt (f_by__0.adv hI77.adv) hn88.2 hz90) (fun _ _ hq => hq.2.1)
        obtain ⟨n94, hn94, h59⟩ := bnd h59
        replace hn94 := chk_out hn94
        refine p_cvt rfl Try.underlying65 Try.underlying3 rfl hn94 ?_
        refine s_fa rfl Try.underlying45 rfl Try.sizeOf3 rfl ?_
        refine s_ld rfl (hC78.cells.at 1 rfl) Try.isAgg3 rfl ?_
        refine s_fa rfl Try.underlying45 rfl Try.sizeOf3 rfl ?_
        refine s_ld rfl (hC78.cells.at 0 rfl) Try.isAgg3 rfl ?_
        obtain ⟨n95, hn95, h59⟩ := bnd h59
        replace hn95 := chk_out hn95
        refine p_sub rfl rfl rfl hn95 ?_
        obtain ⟨n96, hn96, h59⟩ := bnd h59
        replace hn96 := chk_out hn96
        refine p_add rfl rfl rfl hn96 ?_
        obtain ⟨n97, hn97, h59⟩ := bnd h59
        have kn97 := remO_out hn97
        refine p_rem rfl rfl rfl kn97 ?_
        obtain ⟨n98, hn98, h59⟩ := bnd h59
        replace hn98 := chk_out hn98
        refine p_add rfl rfl rfl hn98 ?_
        refine s_as rfl rfl ?_
        refine Reg.nilq (fun w99 e100 => ?_)
        have hI101 := hI77.ext e100
        refine cw_seq (cw_regF ?_)
        refine s_mv rfl rfl ?_
        refine s_mv rfl rfl ?_
        refine y_bs (E := (intE .i64)) (xs := [n98]) sl26 hI101 rfl rfl (Cls.cons rfl Cls.nil) (Chs.cons ⟨rfl, hn98.2⟩ Chs.nil) rfl rfl ?_
        intro v102 w103 hI104 x105
        have hf106 := hI104.freeze 0 rfl
        have hI107 := hI104.erase 0
        obtain ⟨l108, hl108, h59⟩ := bnd h59
        obtain ⟨hbl108, el108⟩ := appo_out hl108
        refine y_app 0 sl26 hI107 rfl rfl rfl hf106 hbl108 rfl ?_
        rw [← el108]
        intro v109 w110 hI111 x112
        refine s_as rfl rfl ?_
        refine Reg.nil ?_
        refine cw_seq ?_
        refine cw_regSea [0, 1, 2, 3, 4, 5, 6, 7, 8, 9, 10, 11, 12, 13, 14, 15, 16, 17, 18, 19, 20, 21, 22, 23, 24, 25, 26, 27, 28, 29] [30, 31, 32] [] [31] [[31, 29, 20, 6, 5, 4], [31, 29, 14, 13, 7], [31, 29, 14, 13, 12, 11, 10, 9], [31, 29, 20, 19, 18], [31, 29, 28, 27, 21], [31, 29, 28, 27, 26, 25, 23, 22]] [] fol (by kernel_rfl) rfl (by kernel_rfl) rfl rfl ?_
        refine s_mv rfl rfl ?_
        refine s_mv rfl rfl ?_
        refine s_mv rfl rfl ?_
        refine s_mv rfl rfl ?_
        obtain ⟨n113, hn113, h59⟩ := bnd h59
        replace hn113 := chk_out hn113
        refine p_mul rfl rfl rfl hn113 ?_
        obtain ⟨n114, hn114, h59⟩ := bnd h59
        replace hn114 := chk_out hn114
        refine p_add rfl rfl rfl hn114 ?_
        obtain ⟨z115, hz116, h59⟩ := bnd h59
        refine s_callq rfl rfl Try.call27 rfl (fun w117 e118 => (C_law06_at (hI111.mlt.ext e118) ((f_by__0.adv hI111.adv).adv (Adv.of_ext e118)) hn114.2 hz116).mono (fun _ _ hq => ⟨hq.1, hq.2.2⟩)) ?_
        have r119 := Calls.fact (C_law06_at hI111.mlt (f_by__0.adv hI111.adv) hn114.2 hz116) (fun _ _ hq => hq.2.1)
        obtain ⟨n120, hn120, h59⟩ := bnd h59
        replace hn120 := chk_out hn120
        refine p_cvt rfl Try.underlying65 Try.underlying3 rfl hn120 ?_
        refine s_mv rfl rfl ?_
        refine s_fa rfl Try.underlying45 rfl Try.sizeOf3 rfl ?_
        refine s_ld rfl ((hC78.adv ((Adv.of_ext e100).trans (x105.trans ((Hp.eraseA (σ := [ownR [] (intE .i64) 3 v102 ([n98] : List Int), ownR [] (intE .i64) 3 v45 x44, ownR [] SpanE 45 v47 x46, ownR [] SpanE 45 v49 x48]) 0).trans x112)))).cells.at 0 rfl) Try.isAgg3 rfl ?_
        obtain ⟨n121, hn121, h59⟩ := bnd h59
        replace hn121 := chk_out hn121
        refine p_sub rfl rfl rfl hn121 ?_
        obtain ⟨n122, hn122, h59⟩ := bnd h59
        replace hn122 := chk_out hn122
        refine p_add rfl rfl rfl hn122 ?_
        obtain ⟨n123, hn123, h59⟩ := bnd h59
        have kn123 := remO_out hn123
        refine p_rem rfl rfl rfl kn123 ?_
        obtain ⟨n124, hn124, h59⟩ := bnd h59
        replace hn124 := chk_out hn124
        refine p_sub rfl rfl rfl hn124 ?_
        refine s_mv rfl rfl ?_
        refine s_mv rfl rfl ?_
        refine s_mv rfl rfl ?_
        obtain ⟨n125, hn125, h59⟩ := bnd h59
        replace hn125 := chk_out hn125
        refine p_mul rfl rfl rfl hn125 ?_
        obtain ⟨n126, hn126, h59⟩ := bnd h59
        replace hn126 := chk_out hn126
        refine p_add rfl rfl rfl hn126 ?_
        obtain ⟨z127, hz128, h59⟩ := bnd h59
        refine s_callq rfl rfl Try.call27 rfl (fun w129 e130 => (C_law06_at (hI111.mlt.ext e130) ((f_by__0.adv hI111.adv).adv (Adv.of_ext e130)) hn126.2 hz128).mono (fun _ _ hq => ⟨hq.1, hq.2.2⟩)) ?_
        have r131 := Calls.fact (C_law06_at hI111.mlt (f_by__0.adv hI111.adv) hn126.2 hz128) (fun _ _ hq => hq.2.1)
        obtain ⟨n132, hn132, h59⟩ := bnd h59
        replace hn132 := chk_out hn132
        refine p_cvt rfl Try.underlying65 Try.underlying3 rfl hn132 ?_
        refine s_fa rfl Try.underlying45 rfl Try.sizeOf3 rfl ?_
        refine s_ld rfl ((hC78.adv ((Adv.of_ext e100).trans (x105.trans ((Hp.eraseA (σ := [ownR [] (intE .i64) 3 v102 ([n98] : List Int), ownR [] (intE .i64) 3 v45 x44, ownR [] SpanE 45 v47 x46, ownR [] SpanE 45 v49 x48]) 0).trans x112)))).cells.at 1 rfl) Try.isAgg3 rfl ?_
        refine s_mv rfl rfl ?_
        obtain ⟨n133, hn133, h59⟩ := bnd h59
        replace hn133 := chk_out hn133
        refine p_sub rfl rfl rfl hn133 ?_
        obtain ⟨n134, hn134, h59⟩ := bnd h59
        replace hn134 := chk_out hn134
        refine p_add rfl rfl rfl hn134 ?_
        obtain ⟨n135, hn135, h59⟩ := bnd h59
        have kn135 := remO_out hn135
        refine p_rem rfl rfl rfl kn135 ?_
        obtain ⟨n136, hn136, h59⟩ := bnd h59
        replace hn136 := chk_out hn136
        refine p_add rfl rfl rfl hn136 ?_
        obtain ⟨z137, hz138, h59⟩ := bnd h59
        refine s_callq rfl rfl Try.call29 rfl (fun w139 e140 => (C_law06_span (hI111.mlt.ext e140) hn124.2 hn136.2 hz138).mono (fun _ _ hq => ⟨hq.1, hq.2.2.2⟩)) ?_
        have r141 := Calls.fact (C_law06_span hI111.mlt hn124.2 hn136.2 hz138) (fun _ _ hq => hq.2.1)
        have r142 := Calls.fact (C_law06_span hI111.mlt hn124.2 hn136.2 hz138) (fun _ _ hq => hq.2.2.1)
        refine Reg.nilX ⟨rfl, rfl, rfl, ?_⟩
        intro w143 e144
        have hI145 := (Hp.start (Mu := []) hI111.mlt).ext e144
        refine SeaWalk.step [30] (by kernel_rfl) (AllL.cons ?_ (AllL.nil))
        refine ⟨_, [], rfl, RSub.nil, rfl, nodupB_spec rfl, ?_⟩
        simp only [relOut]
        refine y_bs (E := SpanE) (xs := [z137]) sl43 hI145 rfl rfl (Cls.cons rfl Cls.nil) (Chs.cons ((SpanE_R (x := z137)).2 ⟨rfl, r141, r142⟩) Chs.nil) rfl rfl ?_
        intro v146 w147 hI148 x149
        refine Reg.nil ⟨rfl, .inr hI148.kp, rfl, ?_⟩
        intro w150 e151
        have hI152 := hI148.ext e151
        refine SeaWalk.step [31] (by kernel_rfl) (AllL.cons ?_ (AllL.nil))
        refine ⟨_, [], rfl, RSub.nil, rfl, nodupB_spec rfl, ?_⟩
        simp only [relOut]
        have hI153 := hI111.join hI152
        have hf154 := hI153.freeze 0 rfl
        have hI155 := hI153.erase 0
        obtain ⟨l156, hl156, h59⟩ := bnd h59
        obtain ⟨hbl156, el156⟩ := appo_out hl156
        refine y_app 1 sl43 hI155 rfl rfl rfl hf154 hbl156 rfl ?_
        rw [← el156]
        intro v157 w158 hI159 x160
        refine Reg.nil ⟨rfl, .inl rfl, rfl, ?_⟩
        intro w161 e162
        have hI163 := hI159.ext e162
        refine SeaWalk.step [32] (by kernel_rfl) (AllL.cons ?_ (AllL.nil))
        refine ⟨_, [], rfl, RSub.nil, rfl, nodupB_spec rfl, ?_⟩
        simp only [relOut]
        refine s_as rfl rfl ?_
        refine Reg.nil ⟨rfl, .inl rfl, rfl, ?_⟩
        intro w164 e165
        have hI166 := hI163.ext e165
        refine SeaWalk.done ?_
        refine cw_regF ?_
        refine s_mv rfl rfl ?_
        refine s_mv rfl rfl ?_
        refine s_mv rfl rfl ?_
        obtain ⟨z167, hz168, h59⟩ := bnd h59
        refine s_call rfl Try.call29 rfl ?_
        refine (C_law06_span hI166.mlt hn98.2 hn98.2 hz168).mono ?_
        rintro _ w169 ⟨rfl, r171, r172, e170⟩
        refine ⟨_, rfl, ?_⟩
        have hI173 := hI166.ext e170
        refine y_bs (E := SpanE) (xs := [z167]) sl43 hI173 rfl rfl (Cls.cons rfl Cls.nil) (Chs.cons ((SpanE_R (x := z167)).2 ⟨rfl, r171, r172⟩) Chs.nil) rfl rfl ?_
        intro v174 w175 hI176 x177
        have hf178 := hI176.freeze 0 rfl
        have hI179 := hI176.erase 0
        obtain ⟨l180, hl180, h59⟩ := bnd h59
        obtain ⟨hbl180, el180⟩ := appo_out hl180
        refine y_app 2 sl43 hI179 rfl rfl rfl hf178 hbl180 rfl ?_
        rw [← el180]
        intro v181 w182 hI183 x184
        refine s_as rfl rfl ?_
        refine Reg.nil ?_
        refine cw_regF ?_
        obtain ⟨n185, hn185, h59⟩ := bnd h59
        replace hn185 := chk_out hn185
        refine p_add rfl rfl rfl hn185 ?_
        refine s_mv rfl rfl ?_
        refine Reg.nil ?_
        obtain rfl := Option.some.inj h59
        refine ⟨rfl, (l108, l156, l180, n185, v109, v157, v181), ⟨⟨hI183, (hA54.trans (x73.trans (x76.trans ((Hp.eraseA (σ := [rowR 45 b70 [Value.int .i64 y62.lo, Value.int .i64 y62.hi], ownR [] (intE .i64) 3 v45 x44, ownR [] SpanE 45 v47 x46, ownR [] SpanE 45 v49 x48]) 0).trans ((Adv.of_ext e100).trans (x105.trans ((Hp.eraseA (σ := [ownR [] (intE .i64) 3 v102 ([n98] : List Int), ownR [] (intE .i64) 3 v45 x44, ownR [] SpanE 45 v47 x46, ownR [] SpanE 45 v49 x48]) 0).trans (x112.trans ((Adv.of_ext e144).trans (x149.trans ((Adv.of_ext e151).trans ((Hp.eraseA (σ := [ownR [] SpanE 45 v146 ([z137] : List Span), ownR [] (intE .i64) 3 v109 l108, ownR [] SpanE 45 v47 x46, ownR [] SpanE 45 v49 x48]) 0).trans (x160.trans ((Adv.of_ext e162).trans ((Adv.of_ext e165).trans ((Adv.of_ext e170).trans (x177.trans ((Hp.eraseA (σ := [ownR [] SpanE 45 v174 ([z167] : List Span), ownR [] (intE .i64) 3 v109 l108, ownR [] SpanE 45 v157 l156, ownR [] SpanE 45 v49 x48]) 0).trans x184)))))))))))))))))), hn185.2⟩, rfl⟩, Sub.cons rfl (Sub.cons rfl (Sub.cons rfl (Sub.cons rfl (Sub.cons rfl (Sub.cons rfl (Sub.cons rfl (Sub.cons rfl (Sub.cons rfl (Sub.cons rfl (Sub.nil _))))))))))⟩
     ·replace h59 := cdF hc61 h59
      refine cw_exit ?_
      refine exB_same ?_
      obtain rfl := Option.some.inj h59
      obtain rfl := hR60 _ rfl
      refine ⟨rfl, (x44, x46, x48, v45, v47, v49), ⟨hI53, hA54, rfl⟩, Sub.cons rfl (Sub.cons rfl (Sub.cons rfl (Sub.cons rfl (Sub.cons rfl (Sub.cons rfl (Sub.nil _))))))⟩
    ·skip
     rintro ⟨x35, x37, x39, v36, v38, v40⟩ w41 ⟨hI42, hA43, rfl⟩
     replace h := elimL h
     refine cw_seq (cw_regF ?_)
     refine s_lda rfl (hC6.adv ((Adv.of_ext e10).trans (hA18.trans hA43))).cells Try.isAgg25 rfl Try.sizeOf25 rfl ?_
     refine s_mv rfl rfl ?_
     obtain ⟨⟨z186, z187, z188⟩, hz189, h⟩ := bnd h
     refine s_call rfl Try.call14 rfl ?_
     refine (C_score_Score (hI42.sel [1, 2] rfl).mlt f_m_0 ((f_m_1.adv hI42.adv).adv (Hp.selA (σ := [ownR [] (intE .i64) 3 v36 x35, ownR [] SpanE 45 v38 x37, ownR [] SpanE 45 v40 x39]) [1, 2])) ((f_m_2.adv hI42.adv).adv (Hp.selA (σ := [ownR [] (intE .i64) 3 v36 x35, ownR [] SpanE 45 v38 x37, ownR [] SpanE 45 v40 x39]) [1, 2])) f_m_3 (hI42.lendRd [1, 2] 0 rfl rfl) hz189).mono ?_
     rintro _ w190 ⟨rfl, r192, r193, e191⟩
     refine ⟨_, rfl, ?_⟩
     have hI194 := hI42.ext e191
     refine s_mv rfl rfl ?_
     refine s_xt rfl rfl rfl ?_
     refine s_xt rfl rfl rfl ?_
     refine s_xt rfl rfl rfl ?_
     refine s_as rfl rfl ?_
     refine s_as rfl rfl ?_
     refine s_as rfl rfl ?_
     refine Reg.nil ?_
     refine cw_seq (cw_regF ?_)
     refine s_lda rfl (hC6.adv ((Adv.of_ext e10).trans (hA18.trans (hA43.trans (Adv.of_ext e191))))).cells Try.isAgg25 rfl Try.sizeOf25 rfl ?_
     refine s_mv rfl rfl ?_
     obtain ⟨⟨z195, z196⟩, hz197, h⟩ := bnd h
     refine s_call rfl Try.call22 rfl ?_
     refine (C_score_Between hI194.mlt f_m_0 (f_m_1.adv hI194.adv) (f_m_2.adv hI194.adv) f_m_3 (f_x_0.adv hI194.adv) hz197).mono ?_
     rintro _ w198 ⟨rfl, r200, r201, r202, e199⟩
     refine ⟨_, rfl, ?_⟩
     have hI203 := hI194.ext e199
     refine s_mv rfl rfl ?_
     refine s_xt rfl rfl rfl ?_
     refine s_xt rfl rfl rfl ?_
     refine y_al hI203 Try.zeroValue45 rfl rfl ?_
     intro b204 w205 hI206 x207
     refine y_st 0 hI206 rfl rfl rfl rfl Try.sizeOf45 rfl rfl (one1 rfl (one1 rfl one0)) ?_
     intro w208 hI209 x210
     have hC212 := hI209.freezeRow 0 rfl
     have hI211 := hI209.erase 0
     refine s_as rfl rfl ?_
     refine Reg.nil ?_
     refine cw_seq (cw_regF ?_)
     refine s_lda rfl (hC6.adv ((Adv.of_ext e10).trans (hA18.trans (hA43.trans ((Adv.of_ext e191).trans ((Adv.of_ext e199).trans (x207.trans (x210.trans (Hp.eraseA (σ := [rowR 45 b204 [Value.int .i64 z195.lo, Value.int .i64 z195.hi], ownR [] (intE .i64) 3 v36 x35, ownR [] SpanE 45 v38 x37, ownR [] SpanE 45 v40 x39]) 0))))))))).cells Try.isAgg25 rfl Try.sizeOf25 rfl ?_
     refine s_mv rfl rfl ?_
     obtain ⟨⟨z213, z214⟩, hz215, h⟩ := bnd h
     refine s_call rfl Try.call22 rfl ?_
     refine (C_score_Between (hI211.sel [0, 2] rfl).mlt f_m_0 ((f_m_1.adv hI211.adv).adv (Hp.selA (σ := [ownR [] (intE .i64) 3 v36 x35, ownR [] SpanE 45 v38 x37, ownR [] SpanE 45 v40 x39]) [0, 2])) ((f_m_2.adv hI211.adv).adv (Hp.selA (σ := [ownR [] (intE .i64) 3 v36 x35, ownR [] SpanE 45 v38 x37, ownR [] SpanE 45 v40 x39]) [0, 2])) f_m_3 (hI211.lendRd [0, 2] 1 rfl rfl) hz215).mono ?_
     rintro _ w216 ⟨rfl, r218, r219, r220, e217⟩
     refine ⟨_, rfl, ?_⟩
     have hI221 := hI211.ext e217
     refine s_mv rfl rfl ?_
     refine s_xt rfl rfl rfl ?_
     refine s_xt rfl rfl rfl ?_
     refine y_al hI221 Try.zeroValue45 rfl rfl ?_
     intro b222 w223 hI224 x225
     refine y_st 0 hI224 rfl rfl rfl rfl Try.sizeOf45 rfl rfl (one1 rfl (one1 rfl one0)) ?_
     intro w226 hI227 x228
     have hC230 := hI227.freezeRow 0 rfl
     have hI229 := hI227.erase 0
     refine s_as rfl rfl ?_
     refine Reg.nil ?_
     refine cw_seq (cw_regF ?_)
     refine s_lda rfl (hC6.adv ((Adv.of_ext e10).trans (hA18.trans (hA43.trans ((Adv.of_ext e191).trans ((Adv.of_ext e199).trans (x207.trans (x210.trans ((Hp.eraseA (σ := [rowR 45 b204 [Value.int .i64 z195.lo, Value.int .i64 z195.hi], ownR [] (intE .i64) 3 v36 x35, ownR [] SpanE 45 v38 x37, ownR [] SpanE 45 v40 x39]) 0).trans ((Adv.of_ext e217).trans (x225.trans (x228.trans (Hp.eraseA (σ := [rowR 45 b222 [Value.int .i64 z213.lo, Value.int .i64 z213.hi], ownR [] (intE .i64) 3 v36 x35, ownR [] SpanE 45 v38 x37, ownR [] SpanE 45 v40 x39]) 0))))))))))))).cells Try.isAgg25 rfl Try.sizeOf25 rfl ?_
     refine s_mv rfl rfl ?_
     obtain ⟨⟨z231, z232⟩, hz233, h⟩ := bnd h
     refine s_call rfl Try.call22 rfl ?_
     refine (C_score_Between (hI229.sel [0, 1] rfl).mlt f_m_0 ((f_m_1.adv hI229.adv).adv (Hp.selA (σ := [ownR [] (intE .i64) 3 v36 x35, ownR [] SpanE 45 v38 x37, ownR [] SpanE 45 v40 x39]) [0, 1])) ((f_m_2.adv hI229.adv).adv (Hp.selA (σ := [ownR [] (intE .i64) 3 v36 x35, ownR [] SpanE 45 v38 x37, ownR [] SpanE 45 v40 x39]) [0, 1])) f_m_3 (hI229.lendRd [0, 1] 2 rfl rfl) hz233).mono ?_
     rintro _ w234 ⟨rfl, r236, r237, r238, e235⟩
     refine ⟨_, rfl, ?_⟩
     have hI239 := hI229.ext e235
     refine s_mv rfl rfl ?_
     refine s_xt rfl rfl rfl ?_
     refine s_xt rfl rfl rfl ?_
     refine y_al hI239 Try.zeroValue45 rfl rfl ?_
     intro b240 w241 hI242 x243
     refine y_st 0 hI242 rfl rfl rfl rfl Try.sizeOf45 rfl rfl (one1 rfl (one1 rfl one0)) ?_
     intro w244 hI245 x246
     have hC248 := hI245.freezeRow 0 rfl
     have hI247 := hI245.erase 0
     refine s_as rfl rfl ?_
     refine Reg.nil ?_
     obtain ⟨j249, h250, h⟩ := bnd h
     refine cw_sub (L := [(7, _), (14, _), (16, _), (17, _), (18, _), (19, _), (20, _), (21, _), (22, _)]) (Sub.cons rfl (Sub.cons rfl (Sub.cons rfl (Sub.cons rfl (Sub.cons rfl (Sub.cons rfl (Sub.cons rfl (Sub.cons rfl (Sub.cons rfl (Sub.nil _)))))))))) ?_
     refine cw_seqD 9 (ι := Bool) (fun x251 => [(6, Value.bool x251)]) (fun x251 => fun w252 => Hp w [] M [ownR [] (intE .i64) 3 v36 x35, ownR [] SpanE 45 v38 x37, ownR [] SpanE 45 v40 x39] w252 ∧ Adv (mm [ownR [] (intE .i64) 3 v36 x35, ownR [] SpanE 45 v38 x37, ownR [] SpanE 45 v40 x39] M) (mm [ownR [] (intE .i64) 3 v36 x35, ownR [] SpanE 45 v38 x37, ownR [] SpanE 45 v40 x39] M) w244 w252 ∧ x251 = j249) ?_ ?_
     ·skip
      refine cw_regT fol (by kernel_rfl) ?_
      refine s_mv rfl rfl ?_
      refine s_mv rfl rfl ?_
      refine Reg.gsplit (t := 148) rfl (fun hg255 => ?_) (fun hg255 => ?_)
      ·replace h250 := cdT hg255 h250
       refine Reg.take rfl rfl ?_
       refine s_mv rfl rfl ?_
       refine Reg.take rfl rfl ?_
       refine s_eql rfl rfl rfl ?_
       refine s_pkT rfl rfl rfl ?_
       refine s_mv rfl rfl ?_
       refine Reg.gsplit (t := 152) rfl (fun hg256 => ?_) (fun hg256 => ?_)
       ·replace h250 := cdT hg256 h250
        refine Reg.take rfl rfl ?_
        refine s_mv rfl rfl ?_
        refine Reg.take rfl rfl ?_
        refine s_eql rfl rfl rfl ?_
        refine s_pkT rfl rfl rfl ?_
        refine s_mv rfl rfl ?_
        refine Reg.gsplit (t := 156) rfl (fun hg257 => ?_) (fun hg257 => ?_)
        ·replace h250 := cdT hg257 h250
         refine Reg.take rfl rfl ?_
         refine s_mv rfl rfl ?_
         refine Reg.take rfl rfl ?_
         refine s_eql rfl rfl rfl ?_
         refine s_pkT rfl rfl rfl ?_
         refine s_mv rfl rfl ?_
         refine Reg.gsplit (t := 160) rfl (fun hg258 => ?_) (fun hg258 => ?_)
         ·replace h250 := cdT hg258 h250
          refine Reg.take rfl rfl ?_
          refine s_mv rfl rfl ?_
          refine Reg.take rfl rfl ?_
          refine s_eql rfl rfl rfl ?_
          refine s_pkT rfl rfl rfl ?_
          refine s_mv rfl rfl ?_
          refine Reg.gsplit (t := 164) rfl (fun hg259 => ?_) (fun hg259 => ?_)
          ·replace h250 := cdT hg259 h250
           refine Reg.take rfl rfl ?_
           refine s_fa rfl Try.underlying45 rfl Try.sizeOf3 rfl ?_
           refine Reg.take rfl rfl ?_
           refine s_ld rfl ((hC212.adv ((Adv.of_ext e217).trans (x225.trans (x228.trans ((Hp.eraseA (σ := [rowR 45 b222 [Value.int .i64 z213.lo, Value.int .i64 z213.hi], ownR [] (intE .i64) 3 v36 x35, ownR [] SpanE 45 v38 x37, ownR [] SpanE 45 v40 x39]) 0).trans ((Adv.of_ext e235).trans (x243.trans (x246.trans (Hp.eraseA (σ := [rowR 45 b240 [Value.int .i64 z231.lo, Value.int .i64 z231.hi], ownR [] (intE .i64) 3 v36 x35, ownR [] SpanE 45 v38 x37, ownR [] SpanE 45 v40 x39]) 0))))))))).cells.at 0 rfl) Try.isAgg3 rfl ?_
           refine Reg.take rfl rfl ?_
           refine s_fa rfl Try.underlying45 rfl Try.sizeOf3 rfl ?_
           refine Reg.take rfl rfl ?_
           refine s_ld rfl ((hC230.adv ((Adv.of_ext e235).trans (x243.trans (x246.trans (Hp.eraseA (σ := [rowR 45 b240 [Value.int .i64 z231.lo, Value.int .i64 z231.hi], ownR [] (intE .i64) 3 v36 x35, ownR [] SpanE 45 v38 x37, ownR [] SpanE 45 v40 x39]) 0))))).cells.at 0 rfl) Try.isAgg3 rfl ?_
           refine Reg.take rfl rfl ?_
           refine s_leq rfl rfl rfl ?_
           refine s_pkT rfl rfl rfl ?_
           refine s_mv rfl rfl ?_
           refine Reg.gsplit (t := 171) rfl (fun hg260 => ?_) (fun hg260 => ?_)
           ·replace h250 := cdT hg260 h250
            refine Reg.take rfl rfl ?_
            refine s_fa rfl Try.underlying45 rfl Try.sizeOf3 rfl ?_
            refine Reg.take rfl rfl ?_
            refine s_ld rfl ((hC230.adv ((Adv.of_ext e235).trans (x243.trans (x246.trans (Hp.eraseA (σ := [rowR 45 b240 [Value.int .i64 z231.lo, Value.int .i64 z231.hi], ownR [] (intE .i64) 3 v36 x35, ownR [] SpanE 45 v38 x37, ownR [] SpanE 45 v40 x39]) 0))))).cells.at 0 rfl) Try.isAgg3 rfl ?_
            refine Reg.take rfl rfl ?_
            refine s_mv rfl rfl ?_
            refine Reg.take rfl rfl ?_
            refine s_leq rfl rfl rfl ?_
            refine s_pkT rfl rfl rfl ?_
            refine s_mv rfl rfl ?_
            refine Reg.gsplit (t := 177) rfl (fun hg261 => ?_) (fun hg261 => ?_)
            ·replace h250 := cdT hg261 h250
             refine Reg.take rfl rfl ?_
             refine s_mv rfl rfl ?_
             refine Reg.take rfl rfl ?_
             refine s_fa rfl Try.underlying45 rfl Try.sizeOf3 rfl ?_
             refine Reg.take rfl rfl ?_
             refine s_ld rfl ((hC230.adv ((Adv.of_ext e235).trans (x243.trans (x246.trans (Hp.eraseA (σ := [rowR 45 b240 [Value.int .i64 z231.lo, Value.int .i64 z231.hi], ownR [] (intE .i64) 3 v36 x35, ownR [] SpanE 45 v38 x37, ownR [] SpanE 45 v40 x39]) 0))))).cells.at 1 rfl) Try.isAgg3 rfl ?_
             refine Reg.take rfl rfl ?_
             refine s_leq rfl rfl rfl ?_
             refine s_pkT rfl rfl rfl ?_
             refine s_mv rfl rfl ?_
             refine Reg.gsplit (t := 183) rfl (fun hg262 => ?_) (fun hg262 => ?_)
             ·replace h250 := cdT hg262 h250
              refine Reg.take rfl rfl ?_
              refine s_fa rfl Try.underlying45 rfl Try.sizeOf3 rfl ?_
              refine Reg.take rfl rfl ?_
              refine s_ld rfl ((hC230.adv ((Adv.of_ext e235).trans (x243.trans (x246.trans (Hp.eraseA (σ := [rowR 45 b240 [Value.int .i64 z231.lo, Value.int .i64 z231.hi], ownR [] (intE .i64) 3 v36 x35, ownR [] SpanE 45 v38 x37, ownR [] SpanE 45 v40 x39]) 0))))).cells.at 1 rfl) Try.isAgg3 rfl ?_
              refine Reg.take rfl rfl ?_
              refine s_fa rfl Try.underlying45 rfl Try.sizeOf3 rfl ?_
              refine Reg.take rfl rfl ?_
              refine s_ld rfl ((hC212.adv ((Adv.of_ext e217).trans (x225.trans (x228.trans ((Hp.eraseA (σ := [rowR 45 b222 [Value.int .i64 z213.lo, Value.int .i64 z213.hi], ownR [] (intE .i64) 3 v36 x35, ownR [] SpanE 45 v38 x37, ownR [] SpanE 45 v40 x39]) 0).trans ((Adv.of_ext e235).trans (x243.trans (x246.trans (Hp.eraseA (σ := [rowR 45 b240 [Value.int .i64 z231.lo, Value.int .i64 z231.hi], ownR [] (intE .i64) 3 v36 x35, ownR [] SpanE 45 v38 x37, ownR [] SpanE 45 v40 x39]) 0))))))))).cells.at 1 rfl) Try.isAgg3 rfl ?_
              refine Reg.take rfl rfl ?_
              refine s_leq rfl rfl rfl ?_
              refine s_pkT rfl rfl rfl ?_
              refine s_mv rfl rfl ?_
              refine Reg.gsplit (t := 190) rfl (fun hg263 => ?_) (fun hg263 => ?_)
              ·replace h250 := cdT hg263 h250
               refine Reg.take rfl rfl ?_
               refine s_lda rfl hC248.cells Try.isAgg45 rfl Try.sizeOf45 rfl ?_
               refine Reg.take rfl rfl ?_
               refine s_mv rfl rfl ?_
               refine Reg.take rfl rfl ?_
               refine s_mv rfl rfl ?_
               refine Reg.take rfl rfl ?_
               obtain ⟨z264, hz265, h250⟩ := bnd h250
               refine s_callq rfl rfl Try.call29 rfl (fun w266 e267 => (C_law06_span (hI247.mlt.ext e267) r192 r192 hz265).mono (fun _ _ hq => ⟨hq.1, hq.2.2.2⟩)) ?_
               have r268 := Calls.fact (C_law06_span hI247.mlt r192 r192 hz265) (fun _ _ hq => hq.2.1)
               have r269 := Calls.fact (C_law06_span hI247.mlt r192 r192 hz265) (fun _ _ hq => hq.2.2.1)
               refine Reg.take rfl rfl ?_
               refine s_eqS (Span_eq (Span.mk z231.lo z231.hi) z264) Try.eqGuardType45 rfl rfl rfl ?_
               refine s_pkT rfl rfl rfl ?_
               refine s_as rfl rfl ?_
               refine Reg.nilq (fun w270 e271 => ?_)
               have hI272 := hI247.ext e271
               obtain rfl := Option.some.inj h250
               refine ⟨rfl, decide ((Span.mk z231.lo z231.hi) = z264), ⟨hI272, (Adv.of_ext e271), rfl⟩, Sub.cons rfl (Sub.nil _)⟩
              ·replace h250 := cdF hg263 h250
               refine Reg.pass rfl rfl rfl rfl ?_
               refine Reg.pass rfl rfl rfl rfl ?_
               refine Reg.pass rfl rfl rfl rfl ?_
               refine Reg.pass rfl rfl rfl rfl ?_
               refine Reg.pass rfl rfl rfl rfl ?_
               refine s_pkF rfl rfl rfl ?_
               refine s_as rfl rfl ?_
               refine Reg.nilq (fun w273 e274 => ?_)
               have hI275 := hI247.ext e274
               obtain rfl := Option.some.inj h250
               refine ⟨rfl, false, ⟨hI275, (Adv.of_ext e274), rfl⟩, Sub.cons rfl (Sub.nil _)⟩
             ·replace h250 := cdF hg262 h250
              refine Reg.pass rfl rfl rfl rfl ?_
              refine Reg.pass rfl rfl rfl rfl ?_
              refine Reg.pass rfl rfl rfl rfl ?_
              refine Reg.pass rfl rfl rfl rfl ?_
              refine Reg.pass rfl rfl rfl rfl ?_
              refine s_pkF rfl rfl rfl ?_
              refine s_mv rfl rfl ?_
              refine Reg.pass rfl rfl rfl rfl ?_
              refine Reg.pass rfl rfl rfl rfl ?_
              refine Reg.pass rfl rfl rfl rfl ?_
              refine Reg.pass rfl rfl rfl rfl ?_
              refine Reg.pass rfl rfl rfl rfl ?_
              refine s_pkF rfl rfl rfl ?_
              refine s_as rfl rfl ?_
              refine Reg.nilq (fun w276 e277 => ?_)
              have hI278 := hI247.ext e277
              obtain rfl := Option.some.inj h250
              refine ⟨rfl, false, ⟨hI278, (Adv.of_ext e277), rfl⟩, Sub.cons rfl (Sub.nil _)⟩
            ·replace h250 := cdF hg261 h250
             refine Reg.pass rfl rfl rfl rfl ?_
             refine Reg.pass rfl rfl rfl rfl ?_
             refine Reg.pass rfl rfl rfl rfl ?_
             refine Reg.pass rfl rfl rfl rfl ?_
             refine s_pkF rfl rfl rfl ?_
             refine s_mv rfl rfl ?_
             refine Reg.pass rfl rfl rfl rfl ?_
             refine Reg.pass rfl rfl rfl rfl ?_
             refine Reg.pass rfl rfl rfl rfl ?_
             refine Reg.pass rfl rfl rfl rfl ?_
             refine Reg.pass rfl rfl rfl rfl ?_
             refine s_pkF rfl rfl rfl ?_
             refine s_mv rfl rfl ?_
             refine Reg.pass rfl rfl rfl rfl ?_
             refine Reg.pass rfl rfl rfl rfl ?_
             refine Reg.pass rfl rfl rfl rfl ?_
             refine Reg.pass rfl rfl rfl rfl ?_
             refine Reg.pass rfl rfl rfl rfl ?_
             refine s_pkF rfl rfl rfl ?_
             refine s_as rfl rfl ?_
             refine Reg.nilq (fun w279 e280 => ?_)
             have hI281 := hI247.ext e280
             obtain rfl := Option.some.inj h250
             refine ⟨rfl, false, ⟨hI281, (Adv.of_ext e280), rfl⟩, Sub.cons rfl (Sub.nil _)⟩
           ·replace h250 := cdF hg260 h250
            refine Reg.pass rfl rfl rfl rfl ?_
            refine Reg.pass rfl rfl rfl rfl ?_
            refine Reg.pass rfl rfl rfl rfl ?_
            refine Reg.pass rfl rfl rfl rfl ?_
            refine s_pkF rfl rfl rfl ?_
            refine s_mv rfl rfl ?_
            refine Reg.pass rfl rfl rfl rfl ?_
            refine Reg.pass rfl rfl rfl rfl ?_
            refine Reg.pass rfl rfl rfl rfl ?_
            refine Reg.pass rfl rfl rfl rfl ?_
            refine s_pkF rfl rfl rfl ?_
            refine s_mv rfl rfl ?_
            refine Reg.pass rfl rfl rfl rfl ?_
            refine Reg.pass rfl rfl rfl rfl ?_
            refine Reg.pass rfl rfl rfl rfl ?_
            refine Reg.pass rfl rfl rfl rfl ?_
            refine Reg.pass rfl rfl rfl rfl ?_
            refine s_pkF rfl rfl rfl ?_
            refine s_mv rfl rfl ?_
            refine Reg.pass rfl rfl rfl rfl ?_
            refine Reg.pass rfl rfl rfl rfl ?_
            refine Reg.pass rfl rfl rfl rfl ?_
            refine Reg.pass rfl rfl rfl rfl ?_
            refine Reg.pass rfl rfl rfl rfl ?_
            refine s_pkF rfl rfl rfl ?_
            refine s_as rfl rfl ?_
            refine Reg.nilq (fun w282 e283 => ?_)
            have hI284 := hI247.ext e283
            obtain rfl := Option.some.inj h250
            refine ⟨rfl, false, ⟨hI284, (Adv.of_ext e283), rfl⟩, Sub.cons rfl (Sub.nil _)⟩
          ·replace h250 := cdF hg259 h250
           refine Reg.pass rfl rfl rfl rfl ?_
           refine Reg.pass rfl rfl rfl rfl ?_
           refine Reg.pass rfl rfl rfl rfl ?_
           refine Reg.pass rfl rfl rfl rfl ?_
           refine Reg.pass rfl rfl rfl rfl ?_
           refine s_pkF rfl rfl rfl ?_
           refine s_mv rfl rfl ?_
           refine Reg.pass rfl rfl rfl rfl ?_
           refine Reg.pass rfl rfl rfl rfl ?_
           refine Reg.pass rfl rfl rfl rfl ?_
           refine Reg.pass rfl rfl rfl rfl ?_
           refine s_pkF rfl rfl rfl ?_
           refine s_mv rfl rfl ?_
           refine Reg.pass rfl rfl rfl rfl ?_
           refine Reg.pass rfl rfl rfl rfl ?_
           refine Reg.pass rfl rfl rfl rfl ?_
           refine Reg.pass rfl rfl rfl rfl ?_
           refine s_pkF rfl rfl rfl ?_
           refine s_mv rfl rfl ?_
           refine Reg.pass rfl rfl rfl rfl ?_
           refine Reg.pass rfl rfl rfl rfl ?_
           refine Reg.pass rfl rfl rfl rfl ?_
           refine Reg.pass rfl rfl rfl rfl ?_
           refine Reg.pass rfl rfl rfl rfl ?_
           refine s_pkF rfl rfl rfl ?_
           refine s_mv rfl rfl ?_
           refine Reg.pass rfl rfl rfl rfl ?_
           refine Reg.pass rfl rfl rfl rfl ?_
           refine Reg.pass rfl rfl rfl rfl ?_
           refine Reg.pass rfl rfl rfl rfl ?_
           refine Reg.pass rfl rfl rfl rfl ?_
           refine s_pkF rfl rfl rfl ?_
           refine s_as rfl rfl ?_
           refine Reg.nilq (fun w285 e286 => ?_)
           have hI287 := hI247.ext e286
           obtain rfl := Option.some.inj h250
           refine ⟨rfl, false, ⟨hI287, (Adv.of_ext e286), rfl⟩, Sub.cons rfl (Sub.nil _)⟩
         ·replace h250 := cdF hg258 h250
          refine Reg.pass rfl rfl rfl rfl ?_
          refine Reg.pass rfl rfl rfl rfl ?_
          refine s_pkF rfl rfl rfl ?_
          refine s_mv rfl rfl ?_
          refine Reg.pass rfl rfl rfl rfl ?_
          refine Reg.pass rfl rfl rfl rfl ?_
          refine Reg.pass rfl rfl rfl rfl ?_
          refine Reg.pass rfl rfl rfl rfl ?_
          refine Reg.pass rfl rfl rfl rfl ?_
          refine s_pkF rfl rfl rfl ?_
          refine s_mv rfl rfl ?_
          refine Reg.pass rfl rfl rfl rfl ?_
          refine Reg.pass rfl rfl rfl rfl ?_
          refine Reg.pass rfl rfl rfl rfl ?_
          refine Reg.pass rfl rfl rfl rfl ?_
          refine s_pkF rfl rfl rfl ?_
          refine s_mv rfl rfl ?_
          refine Reg.pass rfl rfl rfl rfl ?_
          refine Reg.pass rfl rfl rfl rfl ?_
          refine Reg.pass rfl rfl rfl rfl ?_
          refine Reg.pass rfl rfl rfl rfl ?_
          refine s_pkF rfl rfl rfl ?_
          refine s_mv rfl rfl ?_
          refine Reg.pass rfl rfl rfl rfl ?_
          refine Reg.pass rfl rfl rfl rfl ?_
          refine Reg.pass rfl rfl rfl rfl ?_
          refine Reg.pass rfl rfl rfl rfl ?_
          refine Reg.pass rfl rfl rfl rfl ?_
          refine s_pkF rfl rfl rfl ?_
          refine s_mv rfl rfl ?_
          refine Reg.pass rfl rfl rfl rfl ?_
          refine Reg.pass rfl rfl rfl rfl ?_
          refine Reg.pass rfl rfl rfl rfl ?_
          refine Reg.pass rfl rfl rfl rfl ?_
          refine Reg.pass rfl rfl rfl rfl ?_
          refine s_pkF rfl rfl rfl ?_
          refine s_as rfl rfl ?_
          refine Reg.nilq (fun w288 e289 => ?_)
          have hI290 := hI247.ext e289
          obtain rfl := Option.some.inj h250
          refine ⟨rfl, false, ⟨hI290, (Adv.of_ext e289), rfl⟩, Sub.cons rfl (Sub.nil _)⟩
        ·replace h250 := cdF hg257 h250
         refine Reg.pass rfl rfl rfl rfl ?_
         refine Reg.pass rfl rfl rfl rfl ?_
         refine s_pkF rfl rfl rfl ?_
         refine s_mv rfl rfl ?_
         refine Reg.pass rfl rfl rfl rfl ?_
         refine Reg.pass rfl rfl rfl rfl ?_
         refine s_pkF rfl rfl rfl ?_
         refine s_mv rfl rfl ?_
         refine Reg.pass rfl rfl rfl rfl ?_
         refine Reg.pass rfl rfl rfl rfl ?_
         refine Reg.pass rfl rfl rfl rfl ?_
         refine Reg.pass rfl rfl rfl rfl ?_
         refine Reg.pass rfl rfl rfl rfl ?_
         refine s_pkF rfl rfl rfl ?_
         refine s_mv rfl rfl ?_
         refine Reg.pass rfl rfl rfl rfl ?_
         refine Reg.pass rfl rfl rfl rfl ?_
         refine Reg.pass rfl rfl rfl rfl ?_
         refine Reg.pass rfl rfl rfl rfl ?_
         refine s_pkF rfl rfl rfl ?_
         refine s_mv rfl rfl ?_
         refine Reg.pass rfl rfl rfl rfl ?_
         refine Reg.pass rfl rfl rfl rfl ?_
         refine Reg.pass rfl rfl rfl rfl ?_
         refine Reg.pass rfl rfl rfl rfl ?_
         refine s_pkF rfl rfl rfl ?_
         refine s_mv rfl rfl ?_
         refine Reg.pass rfl rfl rfl rfl ?_
         refine Reg.pass rfl rfl rfl rfl ?_
         refine Reg.pass rfl rfl rfl rfl ?_
         refine Reg.pass rfl rfl rfl rfl ?_
         refine Reg.pass rfl rfl rfl rfl ?_
         refine s_pkF rfl rfl rfl ?_
         refine s_mv rfl rfl ?_
         refine Reg.pass rfl rfl rfl rfl ?_
         refine Reg.pass rfl rfl rfl rfl ?_
         refine Reg.pass rfl rfl rfl rfl ?_
         refine Reg.pass rfl rfl rfl rfl ?_
         refine Reg.pass rfl rfl rfl rfl ?_
         refine s_pkF rfl rfl rfl ?_
         refine s_as rfl rfl ?_
         refine Reg.nilq (fun w291 e292 => ?_)
         have hI293 := hI247.ext e292
         obtain rfl := Option.some.inj h250
         refine ⟨rfl, false, ⟨hI293, (Adv.of_ext e292), rfl⟩, Sub.cons rfl (Sub.nil _)⟩
       ·replace h250 := cdF hg256 h250
        refine Reg.pass rfl rfl rfl rfl ?_
        refine Reg.pass rfl rfl rfl rfl ?_
        refine s_pkF rfl rfl rfl ?_
        refine s_mv rfl rfl ?_
        refine Reg.pass rfl rfl rfl rfl ?_
        refine Reg.pass rfl rfl rfl rfl ?_
        refine s_pkF rfl rfl rfl ?_
        refine s_mv rfl rfl ?_
        refine Reg.pass rfl rfl rfl rfl ?_
        refine Reg.pass rfl rfl rfl rfl ?_
        refine s_pkF rfl rfl rfl ?_
        refine s_mv rfl rfl ?_
        refine Reg.pass rfl rfl rfl rfl ?_
        refine Reg.pass rfl rfl rfl rfl ?_
        refine Reg.pass rfl rfl rfl rfl ?_
        refine Reg.pass rfl rfl rfl rfl ?_
        refine Reg.pass rfl rfl rfl rfl ?_
        refine s_pkF rfl rfl rfl ?_
        refine s_mv rfl rfl ?_
        refine Reg.pass rfl rfl rfl rfl ?_
        refine Reg.pass rfl rfl rfl rfl ?_
        refine Reg.pass rfl rfl rfl rfl ?_
        refine Reg.pass rfl rfl rfl rfl ?_
        refine s_pkF rfl rfl rfl ?_
        refine s_mv rfl rfl ?_
        refine Reg.pass rfl rfl rfl rfl ?_
        refine Reg.pass rfl rfl rfl rfl ?_
        refine Reg.pass rfl rfl rfl rfl ?_
        refine Reg.pass rfl rfl rfl rfl ?_
        refine s_pkF rfl rfl rfl ?_
        refine s_mv rfl rfl ?_
        refine Reg.pass rfl rfl rfl rfl ?_
        refine Reg.pass rfl rfl rfl rfl ?_
        refine Reg.pass rfl rfl rfl rfl ?_
        refine Reg.pass rfl rfl rfl rfl ?_
        refine Reg.pass rfl rfl rfl rfl ?_
        refine s_pkF rfl rfl rfl ?_
        refine s_mv rfl rfl ?_
        refine Reg.pass rfl rfl rfl rfl ?_
        refine Reg.pass rfl rfl rfl rfl ?_
        refine Reg.pass rfl rfl rfl rfl ?_
        refine Reg.pass rfl rfl rfl rfl ?_
        refine Reg.pass rfl rfl rfl rfl ?_
        refine s_pkF rfl rfl rfl ?_
        refine s_as rfl rfl ?_
        refine Reg.nilq (fun w294 e295 => ?_)
        have hI296 := hI247.ext e295
        obtain rfl := Option.some.inj h250
        refine ⟨rfl, false, ⟨hI296, (Adv.of_ext e295), rfl⟩, Sub.cons rfl (Sub.nil _)⟩
      ·replace h250 := cdF hg255 h250
       refine Reg.pass rfl rfl rfl rfl ?_
       refine Reg.pass rfl rfl rfl rfl ?_
       refine s_pkF rfl rfl rfl ?_
       refine s_mv rfl rfl ?_
       refine Reg.pass rfl rfl rfl rfl ?_
       refine Reg.pass rfl rfl rfl rfl ?_
       refine s_pkF rfl rfl rfl ?_
       refine s_mv rfl rfl ?_
       refine Reg.pass rfl rfl rfl rfl ?_
       refine Reg.pass rfl rfl rfl rfl ?_
       refine s_pkF rfl rfl rfl ?_
       refine s_mv rfl rfl ?_
       refine Reg.pass rfl rfl rfl rfl ?_
       refine Reg.pass rfl rfl rfl rfl ?_
       refine s_pkF rfl rfl rfl ?_
       refine s_mv rfl rfl ?_
       refine Reg.pass rfl rfl rfl rfl ?_
       refine Reg.pass rfl rfl rfl rfl ?_
       refine Reg.pass rfl rfl rfl rfl ?_
       refine Reg.pass rfl rfl rfl rfl ?_
       refine Reg.pass rfl rfl rfl rfl ?_
       refine s_pkF rfl rfl rfl ?_
       refine s_mv rfl rfl ?_
       refine Reg.pass rfl rfl rfl rfl ?_
       refine Reg.pass rfl rfl rfl rfl ?_
       refine Reg.pass rfl rfl rfl rfl ?_
       refine Reg.pass rfl rfl rfl rfl ?_
       refine s_pkF rfl rfl rfl ?_
       refine s_mv rfl rfl ?_
       refine Reg.pass rfl rfl rfl rfl ?_
       refine Reg.pass rfl rfl rfl rfl ?_
       refine Reg.pass rfl rfl rfl rfl ?_
       refine Reg.pass rfl rfl rfl rfl ?_
       refine s_pkF rfl rfl rfl ?_
       refine s_mv rfl rfl ?_
       refine Reg.pass rfl rfl rfl rfl ?_
       refine Reg.pass rfl rfl rfl rfl ?_
       refine Reg.pass rfl rfl rfl rfl ?_
       refine Reg.pass rfl rfl rfl rfl ?_
       refine Reg.pass rfl rfl rfl rfl ?_
       refine s_pkF rfl rfl rfl ?_
       refine s_mv rfl rfl ?_
       refine Reg.pass rfl rfl rfl rfl ?_
       refine Reg.pass rfl rfl rfl rfl ?_
       refine Reg.pass rfl rfl rfl rfl ?_
       refine Reg.pass rfl rfl rfl rfl ?_
       refine Reg.pass rfl rfl rfl rfl ?_
       refine s_pkF rfl rfl rfl ?_
       refine s_as rfl rfl ?_
       refine Reg.nilq (fun w297 e298 => ?_)
       have hI299 := hI247.ext e298
       obtain rfl := Option.some.inj h250
       refine ⟨rfl, false, ⟨hI299, (Adv.of_ext e298), rfl⟩, Sub.cons rfl (Sub.nil _)⟩
     ·skip
      rintro x251 w252 ⟨hI253, hA254, rfl⟩
      refine cw_ret ?_
      obtain rfl := Option.some.inj h
      refine fin1 Try.results8 rfl ?_
      exact ⟨rfl, hI253.kp⟩
end Go.Proofs.Ytecmlmngcnionaa
namespace Go.Proofs.Ytecmlmngcnionaa
open Go Go.Sx
namespace S
/-- Values, and spans round them within spans. -/
structure Within (x : List Span) (v : List Int) (b : List Span) (n : Nat) : Prop where
  lv : v.length = n
  lb : b.length = n
  h : ∀ (j : Nat) s a c, x[j]? = some s → v[j]? = some a → b[j]? = some c → 0 ≤ s.lo ∧ s.hi ≤ 1000000 ∧ s.lo ≤ c.lo ∧ c.lo ≤ a ∧ a ≤ c.hi ∧ c.hi ≤ s.hi
theorem Within.step {x : List Span} {v : List Int} {b : List Span} {n : Nat} (h : Within x v b n) {s : Span} (hx : x[n]? = some s) {a : Int} {c : Span} (ha : 0 ≤ s.lo ∧ s.hi ≤ 1000000 ∧ s.lo ≤ c.lo ∧ c.lo ≤ a ∧ a ≤ c.hi ∧ c.hi ≤ s.hi) : Within x (v ++ [a]) (b ++ [c]) (n + 1) := by
  refine ⟨by simp [h.lv], by simp [h.lb], fun j s' a' c' hs hv hb => ?_⟩
  have h1 := h.lv
  have h2 := h.lb
  rw [List.getElem?_append] at hv hb
  by_cases e : j < n
  · rw [if_pos (by omega)] at hv hb
    exact h.h j s' a' c' hs hv hb
  · rw [if_neg (by omega)] at hv hb
    have hj := get_lt hv
    simp only [List.length_singleton] at hj
    have : j = n := by omega
    subst this
    rw [h1, Nat.sub_self] at hv
    rw [h2, Nat.sub_self] at hb
    rw [hx] at hs
    cases hs; cases hv; cases hb; exact ha
theorem mapSpan {v : List Int} {j : Nat} {s : Span} (h : (v.map fun a => Span.mk a a)[j]? = some s) : ∃ a, v[j]? = some a ∧ s = Span.mk a a := by
  rw [List.getElem?_map] at h
  cases hv : v[j]? with
  | none => rw [hv] at h; cases h
  | some a => rw [hv] at h; cases h; exact ⟨a, rfl, rfl⟩
theorem p_ScoreInside (m : Model) (x : List Span) (by_ : List Int) (hby : U32 by_) : P.law06_ScoreInside m x by_ = some true := by
  apply Ret.yes
  unfold P.law06_ScoreInside
  rw [show (Model.mk m.traits m.cards m.trees m.need) = m from rfl]
  refine Ret.bind (Ret.val p_alive (Ret.condF rfl (Ret.bind (r_valid (fun hs hm hl => ?_) (Ret.condT rfl (Ret.ok rfl))))))
  refine Ret.condF rfl ?_
  have ht := (modelOk_iff.1 hm).2.1
  refine Ret.bind (Ret.loop (fun t : List Int × List Span × List Span × Int => ∃ n : Nat, t.2.2.2 = n ∧ n ≤ x.length ∧ Within x t.1 t.2.1 n ∧ t.2.2.1 = t.1.map fun a => Span.mk a a) (fun t => x.length - t.2.2.2.toNat) ⟨0, rfl, Nat.zero_le _, ⟨rfl, rfl, fun j s a c _ h => by simp at h⟩, rfl⟩ ?_)
  rintro ⟨v, b, w, i⟩ ⟨n, rfl, hn, hW, hj⟩
  dsimp only at hW hj ⊢
  subst hj
  have hlv := hW.lv
  have hlb := hW.lb
  refine Ret.cond (fun h => ?_) fun h => ?_
  · have hlt : n < x.length := by have := of_decide_eq_true h; omega
    have hxn : x[n]? = some x[n] := List.getElem?_eq_getElem hlt
    generalize x[n] = s at hxn
    refine Ret.bind (Ret.ixo hxn ?_)
    refine Ret.bind (Ret.cond (fun h1 => Ret.ok (Ret.condT rfl (Ret.done (Ret.elimR (Ret.ok rfl))))) fun h1 => ?_)
    refine Ret.cond (fun h2 => Ret.ok (Ret.condT rfl (Ret.done (Ret.elimR (Ret.ok rfl))))) fun h2 => ?_
    refine Ret.ok (Ret.cond (fun h3 => Ret.done (Ret.elimR (Ret.ok rfl))) fun h3 => ?_)
    have h1 := of_decide_eq_false h1
    have h2 := of_decide_eq_false h2
    have h3 := of_decide_eq_false h3
    refine Ret.bind (Ret.chk (by omega) (Ret.bind (r_at hby (by omega) fun z1 z10 z11 => ?_)))
    refine Ret.bind (Ret.chk (by omega) (Ret.bind (Ret.chk (by omega) (Ret.bind (Ret.chk (by omega) (Ret.bind (Ret.remO z10 (by omega) ?_)))))))
    have m1 := mod_in z10 (show 0 < s.hi - s.lo + 1 by omega)
    generalize z1 % (s.hi - s.lo + 1) = k1 at m1
    refine Ret.bind (Ret.chk (by omega) (Ret.bind (Ret.appo (by simp only [List.length_singleton]; omega) (by simp only [List.length_singleton]; omega) ?_)))
    generalize hk : s.lo + k1 = a
    refine Ret.bind (Ret.chk (by omega) (Ret.bind (Ret.chk (by omega) (Ret.bind (r_at hby (by omega) fun z2 z20 z21 => ?_)))))
    refine Ret.bind (Ret.chk (by omega) (Ret.bind (Ret.chk (by omega) (Ret.bind (Ret.chk (by omega) (Ret.bind (Ret.remO z20 (by omega) ?_)))))))
    have m2 := mod_in z20 (show 0 < a - s.lo + 1 by omega)
    generalize z2 % (a - s.lo + 1) = k2 at m2
    refine Ret.bind (Ret.chk (by omega) (Ret.bind (Ret.chk (by omega) (Ret.bind (Ret.chk (by omega) (Ret.bind (r_at hby (by omega) fun z3 z30 z31 => ?_)))))))
    refine Ret.bind (Ret.chk (by omega) (Ret.bind (Ret.chk (by omega) (Ret.bind (Ret.chk (by omega) (Ret.bind (Ret.remO z30 (by omega) ?_)))))))
    have m3 := mod_in z30 (show 0 < s.hi - a + 1 by omega)
    generalize z3 % (s.hi - a + 1) = k3 at m3
    refine Ret.bind (Ret.chk (by omega) (Ret.bind (Ret.val (p_span _ _) (Ret.bind (Ret.appo (by simp only [List.length_singleton]; omega) (by simp only [List.length_singleton]; omega) ?_)))))
    refine Ret.bind (Ret.val (p_span _ _) (Ret.bind (Ret.appo (by simp only [List.length_singleton, List.length_map]; omega) (by simp only [List.length_singleton, List.length_map]; omega) ?_)))
    refine Ret.bind (Ret.chk (by omega) (Ret.next ⟨⟨n + 1, rfl, hlt, hW.step hxn ⟨by omega, by omega, by simp only; omega, by simp only; omega, by simp only; omega, by simp only; omega⟩, by simp⟩, ?_⟩))
    simp only; omega
  · have hn2 : n = x.length := by have := of_decide_eq_false h; omega
    subst hn2
    refine Ret.done (Ret.elimL ?_)
    dsimp only
    have hx : ∀ (j : Nat) s, x[j]? = some s → ∃ a c, v[j]? = some a ∧ b[j]? = some c ∧ 0 ≤ s.lo ∧ s.hi ≤ 1000000 ∧ s.lo ≤ c.lo ∧ c.lo ≤ a ∧ a ≤ c.hi ∧ c.hi ≤ s.hi := fun j s hs => by
      have hj := get_lt hs
      have ha : v[j]? = some (v[j]'(by omega)) := List.getElem?_eq_getElem (by omega)
      have hc : b[j]? = some (b[j]'(by omega)) := List.getElem?_eq_getElem (by omega)
      exact ⟨_, _, ha, hc, hW.h j s _ _ hs ha hc⟩
    have hv : ∀ (j : Nat) a, v[j]? = some a → ∃ s c, x[j]? = some s ∧ b[j]? = some c ∧ 0 ≤ s.lo ∧ s.hi ≤ 1000000 ∧ s.lo ≤ c.lo ∧ c.lo ≤ a ∧ a ≤ c.hi ∧ c.hi ≤ s.hi := fun j a ha => by
      have hj := get_lt ha
      have hs : x[j]? = some (x[j]'(by omega)) := List.getElem?_eq_getElem (by omega)
      have hc : b[j]? = some (b[j]'(by omega)) := List.getElem?_eq_getElem (by omega)
      exact ⟨_, _, hs, hc, hW.h j _ a _ hs ha hc⟩
    have hall : x.all okSpan = true := (all_iff _ _).2 fun j s hs => by
      obtain ⟨a, c, _, _, h⟩ := hx j s hs
      exact okSpan_iff.2 ⟨by omega, by omega, by omega⟩
    have hallb : b.all okSpan = true := (all_iff _ _).2 fun j c hc => by
      have hj := get_lt hc
      have hs : x[j]? = some (x[j]'(by omega)) := List.getElem?_eq_getElem (by omega)
      obtain ⟨a, c', _, hc', h⟩ := hx j _ hs
      rw [hc] at hc'; cases hc'
      exact okSpan_iff.2 ⟨by omega, by omega, by omega⟩
    have hallj : (v.map fun a => Span.mk a a).all okSpan = true := (all_iff _ _).2 fun j c hc => by
      obtain ⟨a, ha, rfl⟩ := mapSpan hc
      obtain ⟨s, c', _, _, h⟩ := hv j a ha
      exact okSpan_iff.2 ⟨by simp only; omega, by simp only; omega, by simp only; omega⟩
    have hvb : InSpans b v := ⟨by omega, fun j a c ha hc => by
      obtain ⟨s, c', _, hc', h⟩ := hv j a ha
      rw [hc] at hc'; cases hc'; omega⟩
    have hbx : ∀ y, InSpans b y → InSpans x y := fun y hy => ⟨by have := hy.1; omega, fun j a s ha hs => by
      obtain ⟨a', c, _, hc, h⟩ := hx j s hs
      have := hy.2 j a c ha hc
      omega⟩
    have hjv : ∀ y, InSpans (v.map fun a => Span.mk a a) y → y = v := fun y hy => by
      have h0 := hy.1
      rw [List.length_map] at h0
      refine List.ext_getElem? fun j => ?_
      cases hyj : y[j]? with
      | none =>
        have : y.length ≤ j := List.getElem?_eq_none_iff.1 hyj
        rw [List.getElem?_eq_none (by omega)]
      | some a =>
        have hj := get_lt hyj
        have ha : v[j]? = some (v[j]'(by omega)) := List.getElem?_eq_getElem (by omega)
        have := hy.2 j a (Span.mk (v[j]'(by omega)) (v[j]'(by omega))) hyj (by rw [List.getElem?_map, ha]; rfl)
        simp only at this
        rw [ha, show a = v[j]'(by omega) by omega]
    have hvx := hbx v hvb
    refine Ret.bind (r_Score hs hm (hvx.valuesOk hall hl) ?_)
    dsimp only
    refine Ret.bind (r_Between hs hm hl hall fun sa a1 a2 a3 => ?_)
    dsimp only
    refine Ret.bind (r_Between hs hm (by omega) hallb fun sb b1 b2 b3 => ?_)
    dsimp only
    refine Ret.bind (r_Between hs hm (by rw [List.length_map]; omega) hallj fun sc c1 c2 c3 => ?_)
    dsimp only
    obtain ⟨y1, hy1, e1⟩ := b2
    obtain ⟨y2, hy2, e2⟩ := b3
    obtain ⟨y3, hy3, e3⟩ := c2
    obtain ⟨y4, hy4, e4⟩ := c3
    have f1 := a1 y1 (hbx y1 hy1)
    have f2 := a1 y2 (hbx y2 hy2)
    have f3 := b1 v hvb
    rw [hjv y3 hy3] at e3
    rw [hjv y4 hy4] at e4
    refine Ret.bind (Ret.condT rfl (Ret.condT (decide_eq_true rfl) (Ret.condT (decide_eq_true rfl) (Ret.condT (decide_eq_true rfl) (Ret.condT (decide_eq_true rfl) ?_)))))
    refine Ret.condT (decide_eq_true (by omega)) (Ret.condT (decide_eq_true (by omega)) (Ret.condT (decide_eq_true (by omega)) (Ret.condT (decide_eq_true (by omega)) ?_)))
    refine Ret.bind (Ret.val (p_span _ _) (Ret.ok (Ret.ok (decide_eq_true ?_))))
    rw [← e3, ← e4]
end S
end Go.Proofs.Ytecmlmngcnionaa
