/-
  Part 9 of the texts that the statement's proof stands on: what memory holds, how code is walked, what the functions reckon. In the order in which they build.
-/

import Derived.Test.YtecmlmngcnionaaSp8
set_option maxRecDepth 20000
namespace Go.Proofs.Ytecmlmngcnionaa
open Go Go.Sx Go.RowKit
noncomputable def P.law06_ScoreSpans (m : Model) (x : (List Span)) : Option Bool :=
 Option.bind (Option.bind (P.ref06_Great (Model.mk m.traits m.cards m.trees m.need)) fun z7 => cond z7 (some true) (some (decide (10 < (x.length : Int))))) fun x13 => cond x13 (some true) (Option.bind (P.ref06_Twin (Model.mk m.traits m.cards m.trees m.need)) fun z15 => Option.bind (appo 16 ([] : List Span) x) fun l43 => Option.bind (P.score_Between (Model.mk z15.traits z15.cards z15.trees z15.need) l43) fun (z51, z52) => Option.bind (P.ref06_Between (Model.mk m.traits m.cards m.trees m.need) x) fun (z91, z92) => Option.bind (cond (decide ((Span.mk z51.lo z51.hi) = (Span.mk z91.lo z91.hi))) (cond (decide (z52 = z92)) (Option.bind (P.ref06_Same (Model.mk z15.traits z15.cards z15.trees z15.need) (Model.mk m.traits m.cards m.trees m.need)) fun z111 => some z111) (some false)) (some false)) fun x116 => some x116)
theorem C_law06_ScoreSpans {M : List Nat} {w : World} (hM : MLt M w) {m : Model} {v_m_1 : Value} {v_m_2 : Value} (f_m_0 : InK .i64 m.traits) (f_m_1 : RdS CardE M w v_m_1 m.cards) (f_m_2 : RdS TreeE M w v_m_2 m.trees) (f_m_3 : InK .i64 m.need) {x : (List Span)} {v_x_0 : Value} (f_x_0 : RdS SpanE M w v_x_0 x) {r0 : Bool} (h : P.law06_ScoreSpans m x = some r0) :
  Calls Try.prog 4 (List.toArray [Value.agg (List.toArray [Value.int .i64 m.traits, v_m_1, v_m_2, Value.int .i64 m.need]), v_x_0]) w fun e w' => e = .returned (Value.bool r0) ∧ Ext w w' := by
 have hI := Hp.start (Mu := []) hM
 refine calls_cw Try.func4 rfl Try.ntmps4 rfl ?_
 refine cw_seq (cw_regF ?_)
 refine y_box hI rfl rfl rfl ?_
 intro b1 w2 hI3 x4
 have hC6 := hI3.freezeRow 0 rfl
 have hI5 := hI3.erase 0
 refine s_as rfl rfl ?_
 refine Reg.nil ?_
 refine cw_seq ?_
 obtain ⟨j7, h8, h⟩ := bnd h
 refine cw_sub (L := [(1, _), (2, _)]) (Sub.cons rfl (Sub.cons rfl (Sub.nil _))) ?_
 refine cw_seqD 0 (ι := Bool) (fun x9 => [(16, Value.bool x9)]) (fun x9 => fun w10 => Hp w [] M [] w10 ∧ Adv (mm [] M) (mm [] M) w2 w10 ∧ x9 = j7) ?_ ?_
 ·skip
  refine cw_regF ?_
  refine s_lda rfl hC6.cells Try.isAgg25 rfl Try.sizeOf25 rfl ?_
  obtain ⟨z13, hz14, h8⟩ := bnd h8
  refine s_call rfl Try.call12 rfl ?_
  refine (C_ref06_Great hI5.mlt f_m_0 (f_m_1.adv hI5.adv) (f_m_2.adv hI5.adv) f_m_3 hz14).mono ?_
  rintro _ w15 ⟨rfl, e16⟩
  refine ⟨_, rfl, ?_⟩
  have hI17 := hI5.ext e16
  refine s_mv rfl rfl ?_
  refine Reg.gsplit (t := 12) rfl (fun hg18 => ?_) (fun hg18 => ?_)
  ·replace h8 := cdT hg18 h8
   refine Reg.pass rfl rfl rfl rfl ?_
   refine Reg.pass rfl rfl rfl rfl ?_
   refine Reg.pass rfl rfl rfl rfl ?_
   refine s_pkT rfl rfl rfl ?_
   refine Reg.nil ?_
   obtain rfl := Option.some.inj h8
   refine ⟨rfl, true, ⟨hI17, (Adv.of_ext e16), rfl⟩, Sub.cons rfl (Sub.cons rfl (Sub.cons rfl (Sub.nil _)))⟩
  ·replace h8 := cdF hg18 h8
   refine Reg.take rfl rfl ?_
   refine s_mv rfl rfl ?_
   refine Reg.take rfl rfl ?_
   refine s_len rfl (f_x_0.adv hI17.adv) Try.underlying43 rfl ?_
   refine Reg.take rfl rfl ?_
   refine s_gtr rfl rfl rfl ?_
   refine s_pkF rfl rfl rfl ?_
   refine Reg.nil ?_
   obtain rfl := Option.some.inj h8
   refine ⟨rfl, decide (10 < (x.length : Int)), ⟨hI17, (Adv.of_ext e16), rfl⟩, Sub.cons rfl (Sub.cons rfl (Sub.cons rfl (Sub.nil _)))⟩
 ·skip
  rintro x9 w10 ⟨hI11, hA12, rfl⟩
  refine cw_cond rfl (fun hc19 => ?_) (fun hc19 => ?_)
  ·replace h := cdT hc19 h
   refine cw_seq (cw_regF ?_)
   refine s_as rfl rfl ?_
   refine Reg.nil ?_
   refine cw_ret ?_
   obtain rfl := Option.some.inj h
   refine fin1 Try.results4 rfl ?_
   exact ⟨rfl, hI11.kp⟩
  ·replace h := cdF hc19 h
   refine cw_skip (cw_seq (cw_regF ?_))
   refine s_lda rfl (hC6.adv hA12).cells Try.isAgg25 rfl Try.sizeOf25 rfl ?_
   obtain ⟨z20, hz21, h⟩ := bnd h
   refine s_call rfl Try.call13 rfl ?_
   refine (C_ref06_Twin hI11.mlt f_m_0 (f_m_1.adv hI11.adv) (f_m_2.adv hI11.adv) f_m_3 hz21).mono ?_
   rintro _ w22 ⟨v25, v27, rfl, r24, hf26, hf28, r29, e23⟩
   refine ⟨_, rfl, ?_⟩
   have hI30 := hI11.ext e23
   refine y_al hI30 Try.zeroValue25 rfl rfl ?_
   intro b31 w32 hI33 x34
   refine y_st 0 hI33 rfl rfl rfl rfl Try.sizeOf25 rfl rfl (one1 rfl (one1 (RdS.oneC hf26) (one1 (RdS.oneC hf28) (one1 rfl one0)))) ?_
   intro w35 hI36 x37
   have hC39 := hI36.freezeRow 0 rfl
   have hI38 := hI36.erase 0
   refine Reg.nil ?_
   refine cw_seq ?_
   refine cw_regSea [0, 1, 2] [3, 4, 5, 6, 7, 8, 9, 10] [21] [9] [[9, 0], [9, 1]] [(21, .p fun v _ => KLit v)] fol (by kernel_rfl) rfl (by kernel_rfl) rfl rfl ?_
   refine s_lda rfl hC39.cells Try.isAgg25 rfl Try.sizeOf25 rfl ?_
   refine Reg.relX KLit rfl rfl rfl ?_ ?_
   ·intro w40 e40; refine s_bs0 sl43 rfl ?_; intro a40 w40_ x40; exact Reg.nil ⟨rfl, x40, _, rfl, ⟨_, rfl⟩, trivial⟩
   refine s_mv rfl rfl ?_
   refine Reg.nilX ⟨rfl, rfl, rfl, ?_⟩
   intro w41 e42
   have hI43 := (Hp.start (Mu := []) hI38.mlt).ext e42
   refine SeaWalk.step [3, 8] (by kernel_rfl) (AllL.cons ?_ (AllL.cons ?_ (AllL.nil)))
   ·skip
    refine ⟨_, [(21, _)], rfl, RSub.cons rfl rfl (RSub.nil), rfl, nodupB_spec rfl, ?_⟩
    simp only [relOut]
    intro u44 k45 s46
    have hI47 := hI43.addLit SpanE 45 k45
    obtain ⟨l48, hl48, h⟩ := bnd h
    obtain ⟨hbl48, el48⟩ := appo_out hl48
    refine y_app 0 sl43 hI47 rfl rfl rfl (f_x_0.adv (hI38.adv.trans ((Adv.of_ext e42).trans (Hp.addLitA (σ := []) SpanE 45 k45)))) hbl48 rfl ?_
    rw [← el48]
    intro v49 w50 hI51 x52
    refine Reg.nilS (L0 := [(1, _), (2, _), (5, _), (20, _), (23, _)]) (Sub.cons rfl (Sub.cons rfl (Sub.cons rfl (Sub.cons rfl (Sub.cons rfl (Sub.nil _)))))) ⟨rfl, .inr hI51.kp, rfl, ?_⟩
    intro w53 e54
    have hI55 := hI51.ext e54
    refine SeaWalk.step [4, 8] (by kernel_rfl) (AllL.cons ?_ (AllL.cons ?_ (AllL.nil)))
    ·skip
     refine ⟨_, [], rfl, RSub.nil, rfl, nodupB_spec rfl, ?_⟩
     simp only [relOut]
     obtain ⟨⟨z56, z57⟩, hz58, h⟩ := bnd h
     refine s_call rfl Try.call22 rfl ?_
     refine (C_score_Between (hI55.sel [] rfl).mlt r24 ((hf26.adv (x34.trans (x37.trans ((Hp.eraseA (σ := [rowR 25 b31 [Value.int .i64 z20.traits, v25, v27, Value.int .i64 z20.need]]) 0).trans ((Adv.of_ext e42).trans ((Hp.addLitA (σ := []) SpanE 45 k45).trans (x52.trans (Adv.of_ext e54)))))))).adv (Hp.selA (σ := [ownR [] SpanE 45 v49 l48]) [])) ((hf28.adv (x34.trans (x37.trans ((Hp.eraseA (σ := [rowR 25 b31 [Value.int .i64 z20.traits, v25, v27, Value.int .i64 z20.need]]) 0).trans ((Adv.of_ext e42).trans ((Hp.addLitA (σ := []) SpanE 45 k45).trans (x52.trans (Adv.of_ext e54)))))))).adv (Hp.selA (σ := [ownR [] SpanE 45 v49 l48]) [])) r29 (hI55.lendRd [] 0 rfl rfl) hz58).mono ?_
     rintro _ w59 ⟨rfl, r61, r62, r63, e60⟩
     refine ⟨_, rfl, ?_⟩
     have hI64 := hI55.ext e60
     refine Reg.nil ⟨rfl, .inr hI64.kp, rfl, ?_⟩
     intro w65 e66
     have hI67 := hI64.ext e66
     refine SeaWalk.step [5, 8] (by kernel_rfl) (AllL.cons ?_ (AllL.cons ?_ (AllL.nil)))
     ·skip
      refine ⟨_, [], rfl, RSub.nil, rfl, nodupB_spec rfl, ?_⟩
      simp only [relOut]
      refine s_mv rfl rfl ?_
      refine Reg.nil ⟨rfl, .inr hI67.kp, rfl, ?_⟩
      intro w68 e69
      have hI70 := hI67.ext e69
      refine SeaWalk.step [6, 7, 8] (by kernel_rfl) (AllL.cons ?_ (AllL.cons ?_ (AllL.cons ?_ (AllL.nil))))
      ·skip
       refine ⟨_, [], rfl, RSub.nil, rfl, nodupB_spec rfl, ?_⟩
       simp only [relOut]
       refine s_xt rfl rfl rfl ?_
       refine Reg.nil ⟨rfl, .inr hI70.kp, rfl, ?_⟩
       intro w71 e72
       have hI73 := hI70.ext e72
       refine SeaWalk.step [7, 8] (by kernel_rfl) (AllL.cons ?_ (AllL.cons ?_ (AllL.nil)))
       ·skip
        refine ⟨_, [], rfl, RSub.nil, rfl, nodupB_spec rfl, ?_⟩
        simp only [relOut]
        refine s_xt rfl rfl rfl ?_
        refine Reg.nil ⟨rfl, .inr hI73.kp, rfl, ?_⟩
        intro w74 e75
        have hI76 := hI73.ext e75
        refine SeaWalk.step [8] (by kernel_rfl) (AllL.cons ?_ (AllL.nil))
        refine ⟨_, [], rfl, RSub.nil, rfl, nodupB_spec rfl, ?_⟩
        simp only [relOut]
        refine y_al hI76 Try.zeroValue45 rfl rfl ?_
        intro b77 w78 hI79 x80
        refine Reg.nil ⟨rfl, .inr hI79.kp, rfl, ?_⟩
        intro w81 e82
        have hI83 := hI79.ext e82
        refine SeaWalk.step [9] (by kernel_rfl) (AllL.cons ?_ (AllL.nil))
        refine ⟨_, [], rfl, RSub.nil, rfl, nodupB_spec rfl, ?_⟩
        simp only [relOut]
        have hI84 := hI38.join hI83
        refine y_st 0 hI84 rfl rfl rfl rfl Try.sizeOf45 rfl rfl (one1 rfl (one1 rfl one0)) ?_
        intro w85 hI86 x87
        have hC89 := hI86.freezeRow 0 rfl
        have hI88 := hI86.erase 0
        refine Reg.nil ⟨rfl, .inl rfl, rfl, ?_⟩
        intro w90 e91
        have hI92 := hI88.ext e91
        refine SeaWalk.step [10] (by kernel_rfl) (AllL.cons ?_ (AllL.nil))
        refine ⟨_, [], rfl, RSub.nil, rfl, nodupB_spec rfl, ?_⟩
        simp only [relOut]
        refine s_as rfl rfl ?_
        refine Reg.nil ⟨rfl, .inl rfl, rfl, ?_⟩
        intro w93 e94
        have hI95 := hI92.ext e94
        refine SeaWalk.done ?_
        refine cw_seq (cw_regF ?_)
        refine s_lda rfl (hC6.adv (hA12.trans ((Adv.of_ext e23).trans (x34.trans (x37.trans ((Hp.eraseA (σ := [rowR 25 b31 [Value.int .i64 z20.traits, v25, v27, Value.int .i64 z20.need]]) 0).trans ((Adv.of_ext e42).trans ((Hp.addLitA (σ := []) SpanE 45 k45).trans (x52.trans ((Adv.of_ext e54).trans ((Adv.of_ext e60).trans ((Adv.of_ext e66).trans ((Adv.of_ext e69).trans ((Adv.of_ext e72).trans ((Adv.of_ext e75).trans (x80.trans ((Adv.of_ext e82).trans (x87.trans ((Hp.eraseA (σ := [rowR 45 b77 [Value.int .i64 z56.lo, Value.int .i64 z56.hi], ownR [] SpanE 45 v49 l48]) 0).trans ((Adv.of_ext e91).trans (Adv.of_ext e94))))))))))))))))))))).cells Try.isAgg25 rfl Try.sizeOf25 rfl ?_
        refine s_mv rfl rfl ?_
        obtain ⟨⟨z96, z97⟩, hz98, h⟩ := bnd h
        refine s_call rfl Try.call23 rfl ?_
        refine (C_ref06_Between hI95.mlt f_m_0 (f_m_1.adv hI95.adv) (f_m_2.adv hI95.adv) f_m_3 (f_x_0.adv hI95.adv) hz98).mono ?_
        rintro _ w99 ⟨rfl, r101, r102, r103, e100⟩
        refine ⟨_, rfl, ?_⟩
        have hI104 := hI95.ext e100
        refine s_mv rfl rfl ?_
        refine s_xt rfl rfl rfl ?_
        refine s_xt rfl rfl rfl ?_
        refine y_al hI104 Try.zeroValue45 rfl rfl ?_
        intro b105 w106 hI107 x108
        refine y_st 0 hI107 rfl rfl rfl rfl Try.sizeOf45 rfl rfl (one1 rfl (one1 rfl one0)) ?_
        intro w109 hI110 x111
        have hC113 := hI110.freezeRow 0 rfl
        have hI112 := hI110.erase 0
        refine s_as rfl rfl ?_
        refine Reg.nil ?_
        obtain ⟨j114, h115, h⟩ := bnd h
        refine cw_sub (L := [(2, _), (5, _), (6, _), (7, _), (8, _), (9, _)]) (Sub.cons rfl (Sub.cons rfl (Sub.cons rfl (Sub.cons rfl (Sub.cons rfl (Sub.cons rfl (Sub.nil _))))))) ?_
        refine cw_seqD 6 (ι := Bool) (fun x116 => [(4, Value.bool x116)]) (fun x116 => fun w117 => Hp w [] M [ownR [] SpanE 45 v49 l48] w117 ∧ Adv (mm [ownR [] SpanE 45 v49 l48] M) (mm [ownR [] SpanE 45 v49 l48] M) w109 w117 ∧ x116 = j114) ?_ ?_
        ·skip
         refine cw_regF ?_
         refine s_lda rfl (hC89.adv ((Adv.of_ext e91).trans ((Adv.of_ext e94).trans ((Adv.of_ext e100).trans (x108.trans (x111.trans (Hp.eraseA (σ := [rowR 45 b105 [Value.int .i64 z96.lo, Value.int .i64 z96.hi], ownR [] SpanE 45 v49 l48]) 0))))))).cells Try.isAgg45 rfl Try.sizeOf45 rfl ?_
         refine s_lda rfl hC113.cells Try.isAgg45 rfl Try.sizeOf45 rfl ?_
         refine s_eqS (Span_eq (Span.mk z56.lo z56.hi) (Span.mk z96.lo z96.hi)) Try.eqGuardType45 rfl rfl rfl ?_
         refine s_mv rfl rfl ?_
         refine Reg.gsplit (t := 36) rfl (fun hg120 => ?_) (fun hg120 => ?_)
         ·replace h115 := cdT hg120 h115
          refine Reg.take rfl rfl ?_
          refine s_mv rfl rfl ?_
          refine Reg.take rfl rfl ?_
          refine s_mv rfl rfl ?_
          refine Reg.take rfl rfl ?_
          refine s_eql rfl rfl rfl ?_
          refine s_pkT rfl rfl rfl ?_
          refine s_mv rfl rfl ?_
          refine Reg.gsplit (t := 41) rfl (fun hg121 => ?_) (fun hg121 => ?_)
          ·replace h115 := cdT hg121 h115
           refine Reg.take rfl rfl ?_
           refine s_lda rfl (hC39.adv ((Adv.of_ext e42).trans ((Hp.addLitA (σ := []) SpanE 45 k45).trans (x52.trans ((Adv.of_ext e54).trans ((Adv.of_ext e60).trans ((Adv.of_ext e66).trans ((Adv.of_ext e69).trans ((Adv.of_ext e72).trans ((Adv.of_ext e75).trans (x80.trans ((Adv.of_ext e82).trans (x87.trans ((Hp.eraseA (σ := [rowR 45 b77 [Value.int .i64 z56.lo, Value.int .i64 z56.hi], ownR [] SpanE 45 v49 l48]) 0).trans ((Adv.of_ext e91).trans ((Adv.of_ext e94).trans ((Adv.of_ext e100).trans (x108.trans (x111.trans (Hp.eraseA (σ := [rowR 45 b105 [Value.int .i64 z96.lo, Value.int .i64 z96.hi], ownR [] SpanE 45 v49 l48]) 0)))))))))))))))))))).cells Try.isAgg25 rfl Try.sizeOf25 rfl ?_
           refine Reg.take rfl rfl ?_
           refine s_lda rfl (hC6.adv (hA12.trans ((Adv.of_ext e23).trans (x34.trans (x37.trans ((Hp.eraseA (σ := [rowR 25 b31 [Value.int .i64 z20.traits, v25, v27, Value.int .i64 z20.need]]) 0).trans ((Adv.of_ext e42).trans ((Hp.addLitA (σ := []) SpanE 45 k45).trans (x52.trans ((Adv.of_ext e54).trans ((Adv.of_ext e60).trans ((Adv.of_ext e66).trans ((Adv.of_ext e69).trans ((Adv.of_ext e72).trans ((Adv.of_ext e75).trans (x80.trans ((Adv.of_ext e82).trans (x87.trans ((Hp.eraseA (σ := [rowR 45 b77 [Value.int .i64 z56.lo, Value.int .i64 z56.hi], ownR [] SpanE 45 v49 l48]) 0).trans ((Adv.of_ext e91).trans ((Adv.of_ext e94).trans ((Adv.of_ext e100).trans (x108.trans (x111.trans (Hp.eraseA (σ := [rowR 45 b105 [Value.int .i64 z96.lo, Value.int .i64 z96.hi], ownR [] SpanE 45 v49 l48]) 0))))))))))))))))))))))))).cells Try.isAgg25 rfl Try.sizeOf25 rfl ?_
           refine Reg.take rfl rfl ?_
           obtain ⟨z122, hz123, h115⟩ := bnd h115
           refine s_call rfl Try.call21 rfl ?_
           refine (C_ref06_Same hI112.mlt r24 (hf26.adv (x34.trans (x37.trans ((Hp.eraseA (σ := [rowR 25 b31 [Value.int .i64 z20.traits, v25, v27, Value.int .i64 z20.need]]) 0).trans ((Adv.of_ext e42).trans ((Hp.addLitA (σ := []) SpanE 45 k45).trans (x52.trans ((Adv.of_ext e54).trans ((Adv.of_ext e60).trans ((Adv.of_ext e66).trans ((Adv.of_ext e69).trans ((Adv.of_ext e72).trans ((Adv.of_ext e75).trans (x80.trans ((Adv.of_ext e82).trans (x87.trans ((Hp.eraseA (σ := [rowR 45 b77 [Value.int .i64 z56.lo, Value.int .i64 z56.hi], ownR [] SpanE 45 v49 l48]) 0).trans ((Adv.of_ext e91).trans ((Adv.of_ext e94).trans ((Adv.of_ext e100).trans (x108.trans (x111.trans (Hp.eraseA (σ := [rowR 45 b105 [Value.int .i64 z96.lo, Value.int .i64 z96.hi], ownR [] SpanE 45 v49 l48]) 0))))))))))))))))))))))) (hf28.adv (x34.trans (x37.trans ((Hp.eraseA (σ := [rowR 25 b31 [Value.int .i64 z20.traits, v25, v27, Value.int .i64 z20.need]]) 0).trans ((Adv.of_ext e42).trans ((Hp.addLitA (σ := []) SpanE 45 k45).trans (x52.trans ((Adv.of_ext e54).trans ((Adv.of_ext e60).trans ((Adv.of_ext e66).trans ((Adv.of_ext e69).trans ((Adv.of_ext e72).trans ((Adv.of_ext e75).trans (x80.trans ((Adv.of_ext e82).trans (x87.trans ((Hp.eraseA (σ := [rowR 45 b77 [Value.int .i64 z56.lo, Value.int .i64 z56.hi], ownR [] SpanE 45 v49 l48]) 0).trans ((Adv.of_ext e91).trans ((Adv.of_ext e94).trans ((Adv.of_ext e100).trans (x108.trans (x111.trans (Hp.eraseA (σ := [rowR 45 b105 [Value.int .i64 z96.lo, Value.int .i64 z96.hi], ownR [] SpanE 45 v49 l48]) 0))))))))))))))))))))))) r29 f_m_0 (f_m_1.adv hI112.adv) (f_m_2.adv hI112.adv) f_m_3 hz123).mono ?_
           rintro _ w124 ⟨rfl, e125⟩
           refine ⟨_, rfl, ?_⟩
           have hI126 := hI112.ext e125
           refine s_pkT rfl rfl rfl ?_
           refine s_as rfl rfl ?_
           refine Reg.nil ?_
           obtain rfl := Option.some.inj h115
           refine ⟨rfl, z122, ⟨hI126, (Adv.of_ext e125), rfl⟩, Sub.cons rfl (Sub.nil _)⟩
          ·replace h115 := cdF hg121 h115
           refine Reg.pass rfl rfl rfl rfl ?_
           refine Reg.pass rfl rfl rfl rfl ?_
           refine Reg.pass rfl rfl rfl rfl ?_
           refine s_pkF rfl rfl rfl ?_
           refine s_as rfl rfl ?_
           refine Reg.nil ?_
           obtain rfl := Option.some.inj h115
           refine ⟨rfl, false, ⟨hI112, (Adv.refl _ _), rfl⟩, Sub.cons rfl (Sub.nil _)⟩
         ·replace h115 := cdF hg120 h115
          refine Reg.pass rfl rfl rfl rfl ?_
          refine Reg.pass rfl rfl rfl rfl ?_
          refine Reg.pass rfl rfl rfl rfl ?_
          refine s_pkF rfl rfl rfl ?_
          refine s_mv rfl rfl ?_
          refine Reg.pass rfl rfl rfl rfl ?_
          refine Reg.pass rfl rfl rfl rfl ?_
          refine Reg.pass rfl rfl rfl rfl ?_
          refine s_pkF rfl rfl rfl ?_
          refine s_as rfl rfl ?_
          refine Reg.nil ?_
          obtain rfl := Option.some.inj h115
          refine ⟨rfl, false, ⟨hI112, (Adv.refl _ _), rfl⟩, Sub.cons rfl (Sub.nil _)⟩
        ·skip
         rintro x116 w117 ⟨hI118, hA119, rfl⟩
         refine cw_ret ?_
         obtain rfl := Option.some.inj h
         refine fin1 Try.results4 rfl ?_
         exact ⟨rfl, hI118.kp⟩
       ·skip
        refine ⟨_, [], rfl, RSub.nil, rfl, nodupB_spec rfl, ?_⟩
        simp only [relOut]
        refine y_al hI73 Try.zeroValue45 rfl rfl ?_
        intro b127 w128 hI129 x130
        refine Reg.nil ⟨rfl, .inr hI129.kp, rfl, ?_⟩
        intro w131 e132
        have hI133 := hI129.ext e132
        refine SeaWalk.step [7, 9] (by kernel_rfl) (AllL.cons ?_ (AllL.cons ?_ (AllL.nil)))
        ·skip
         refine ⟨_, [], rfl, RSub.nil, rfl, nodupB_spec rfl, ?_⟩
         simp only [relOut]
         refine s_xt rfl rfl rfl ?_
         refine Reg.nil ⟨rfl, .inr hI133.kp, rfl, ?_⟩
         intro w134 e135
         have hI136 := hI133.ext e135
         refine SeaWalk.step [9] (by kernel_rfl) (AllL.cons ?_ (AllL.nil))
         refine ⟨_, [], rfl, RSub.nil, rfl, nodupB_spec rfl, ?_⟩
         simp only [relOut]
         have hI137 := hI38.join hI136
         refine y_st 0 hI137 rfl rfl rfl rfl Try.sizeOf45 rfl rfl (one1 rfl (one1 rfl one0)) ?_
         intro w138 hI139 x140
         have hC142 := hI139.freezeRow 0 rfl
         have hI141 := hI139.erase 0
         refine Reg.nil ⟨rfl, .inl rfl, rfl, ?_⟩
         intro w143 e144
         have hI145 := hI141.ext e144
         refine SeaWalk.step [10] (by kernel_rfl) (AllL.cons ?_ (AllL.nil))
         refine ⟨_, [], rfl, RSub.nil, rfl, nodupB_spec rfl, ?_⟩
         simp only [relOut]
         refine s_as rfl rfl ?_
         refine Reg.nil ⟨rfl, .inl rfl, rfl, ?_⟩
         intro w146 e147
         have hI148 := hI145.ext e147
         refine SeaWalk.done ?_
         refine cw_seq (cw_regF ?_)
         refine s_lda rfl (hC6.adv (hA12.trans ((Adv.of_ext e23).trans (x34.trans (x37.trans ((Hp.eraseA (σ := [rowR 25 b31 [Value.int .i64 z20.traits, v25, v27, Value.int .i64 z20.need]]) 0).trans ((Adv.of_ext e42).trans ((Hp.addLitA (σ := []) SpanE 45 k45).trans (x52.trans ((Adv.of_ext e54).trans ((Adv.of_ext e60).trans ((Adv.of_ext e66).trans ((Adv.of_ext e69).trans ((Adv.of_ext e72).trans (x130.trans ((Adv.of_ext e132).trans ((Adv.of_ext e135).trans (x140.trans ((Hp.eraseA (σ := [rowR 45 b127 [Value.int .i64 z56.lo, Value.int .i64 z56.hi], ownR [] SpanE 45 v49 l48]) 0).trans ((Adv.of_ext e144).trans (Adv.of_ext e147))))))))))))))))))))).cells Try.isAgg25 rfl Try.sizeOf25 rfl ?_
         refine s_mv rfl rfl ?_
         obtain ⟨⟨z149, z150⟩, hz151, h⟩ := bnd h
         refine s_call rfl Try.call23 rfl ?_
         refine (C_ref06_Between hI148.mlt f_m_0 (f_m_1.adv hI148.adv) (f_m_2.adv hI148.adv) f_m_3 (f_x_0.adv hI148.adv) hz151).mono ?_
         rintro _ w152 ⟨rfl, r154, r155, r156, e153⟩
         refine ⟨_, rfl, ?_⟩
         have hI157 := hI148.ext e153
         refine s_mv rfl rfl ?_
         refine s_xt rfl rfl rfl ?_
         refine s_xt rfl rfl rfl ?_
         refine y_al hI157 Try.zeroValue45 rfl rfl ?_
         intro b158 w159 hI160 x161
         refine y_st 0 hI160 rfl rfl rfl rfl Try.sizeOf45 rfl rfl (one1 rfl (one1 rfl one0)) ?_
         intro w162 hI163 x164
         have hC166 := hI163.freezeRow 0 rfl
         have hI165 := hI163.erase 0
         refine s_as rfl rfl ?_
         refine Reg.nil ?_
         obtain ⟨j167, h168, h⟩ := bnd h
         refine cw_sub (L := [(2, _), (5, _), (6, _), (7, _), (8, _), (9, _)]) (Sub.cons rfl (Sub.cons rfl (Sub.cons rfl (Sub.cons rfl (Sub.cons rfl (Sub.cons rfl (Sub.nil _))))))) ?_
         refine cw_seqD 6 (ι := Bool) (fun x169 => [(4, Value.bool x169)]) (fun x169 => fun w170 => Hp w [] M [ownR [] SpanE 45 v49 l48] w170 ∧ Adv (mm [ownR [] SpanE 45 v49 l48] M) (mm [ownR [] SpanE 45 v49 l48] M) w162 w170 ∧ x169 = j167) ?_ ?_
         ·skip
          refine cw_regF ?_
          refine s_lda rfl (hC142.adv ((Adv.of_ext e144).trans ((Adv.of_ext e147).trans ((Adv.of_ext e153).trans (x161.trans (x164.trans (Hp.eraseA (σ := [rowR 45 b158 [Value.int .i64 z149.lo, Value.int .i64 z149.hi], ownR [] SpanE 45 v49 l48]) 0))))))).cells Try.isAgg45 rfl Try.sizeOf45 rfl ?_
          refine s_lda rfl hC166.cells Try.isAgg45 rfl Try.sizeOf45 rfl ?_
          refine s_eqS (Span_eq (Span.mk z56.lo z56.hi) (Span.mk z149.lo z149.hi)) Try.eqGuardType45 rfl rfl rfl ?_
          refine s_mv rfl rfl ?_
          refine Reg.gsplit (t := 36) rfl (fun hg173 => ?_) (fun hg173 => ?_)
          ·replace h168 := cdT hg173 h168
           refine Reg.take rfl rfl ?_
           refine s_mv rfl rfl ?_
           refine Reg.take rfl rfl ?_
           refine s_mv rfl rfl ?_
           refine Reg.take rfl rfl ?_
           refine s_eql rfl rfl rfl ?_
           refine s_pkT rfl rfl rfl ?_
           refine s_mv rfl rfl ?_
           refine Reg.gsplit (t := 41) rfl (fun hg174 => ?_) (fun hg174 => ?_)
           ·replace h168 := cdT hg174 h168
            refine Reg.take rfl rfl ?_
            refine s_lda rfl (hC39.adv ((Adv.of_ext e42).trans ((Hp.addLitA (σ := []) SpanE 45 k45).trans (x52.trans ((Adv.of_ext e54).trans ((Adv.of_ext e60).trans ((Adv.of_ext e66).trans ((Adv.of_ext e69).trans ((Adv.of_ext e72).trans (x130.trans ((Adv.of_ext e132).trans ((Adv.of_ext e135).trans (x140.trans ((Hp.eraseA (σ := [rowR 45 b127 [Value.int .i64 z56.lo, Value.int .i64 z56.hi], ownR [] SpanE 45 v49 l48]) 0).trans ((Adv.of_ext e144).trans ((Adv.of_ext e147).trans ((Adv.of_ext e153).trans (x161.trans (x164.trans (Hp.eraseA (σ := [rowR 45 b158 [Value.int .i64 z149.lo, Value.int .i64 z149.hi], ownR [] SpanE 45 v49 l48]) 0)))))))))))))))))))).cells Try.isAgg25 rfl Try.sizeOf25 rfl ?_
            refine Reg.take rfl rfl ?_
            refine s_lda rfl (hC6.adv (hA12.trans ((Adv.of_ext e23).trans (x34.trans (x37.trans ((Hp.eraseA (σ := [rowR 25 b31 [Value.int .i64 z20.traits, v25, v27, Value.int .i64 z20.need]]) 0).trans ((Adv.of_ext e42).trans ((Hp.addLitA (σ := []) SpanE 45 k45).trans (x52.trans ((Adv.of_ext e54).trans ((Adv.of_ext e60).trans ((Adv.of_ext e66).trans ((Adv.of_ext e69).trans ((Adv.of_ext e72).trans (x130.trans ((Adv.of_ext e132).trans ((Adv.of_ext e135).trans (x140.trans ((Hp.eraseA (σ := [rowR 45 b127 [Value.int .i64 z56.lo, Value.int .i64 z56.hi], ownR [] SpanE 45 v49 l48]) 0).trans ((Adv.of_ext e144).trans ((Adv.of_ext e147).trans ((Adv.of_ext e153).trans (x161.trans (x164.trans (Hp.eraseA (σ := [rowR 45 b158 [Value.int .i64 z149.lo, Value.int .i64 z149.hi], ownR [] SpanE 45 v49 l48]) 0))))))))))))))))))))))))).cells Try.isAgg25 rfl Try.sizeOf25 rfl ?_
            refine Reg.take rfl rfl ?_
            obtain ⟨z175, hz176, h168⟩ := bnd h168
            refine s_call rfl Try.call21 rfl ?_
            refine (C_ref06_Same hI165.mlt r24 (hf26.adv (x34.trans (x37.trans ((Hp.eraseA (σ := [rowR 25 b31 [Value.int .i64 z20.traits, v25, v27, Value.int .i64 z20.need]]) 0).trans ((Adv.of_ext e42).trans ((Hp.addLitA (σ := []) SpanE 45 k45).trans (x52.trans ((Adv.of_ext e54).trans ((Adv.of_ext e60).trans ((Adv.of_ext e66).trans ((Adv.of_ext e69).trans ((Adv.of_ext e72).trans (x130.trans ((Adv.of_ext e132).trans ((Adv.of_ext e135).trans (x140.trans ((Hp.eraseA (σ := [rowR 45 b127 [Value.int .i64 z56.lo, Value.int .i64 z56.hi], ownR [] SpanE 45 v49 l48]) 0).trans ((Adv.of_ext e144).trans ((Adv.of_ext e147).trans ((Adv.of_ext e153).trans (x161.trans (x164.trans (Hp.eraseA (σ := [rowR 45 b158 [Value.int .i64 z149.lo, Value.int .i64 z149.hi], ownR [] SpanE 45 v49 l48]) 0))))))))))))))))))))))) (hf28.adv (x34.trans (x37.trans ((Hp.eraseA (σ := [rowR 25 b31 [Value.int .i64 z20.traits, v25, v27, Value.int .i64 z20.need]]) 0).trans ((Adv.of_ext e42).trans ((Hp.addLitA (σ := []) SpanE 45 k45).trans (x52.trans ((Adv.of_ext e54).trans ((Adv.of_ext e60).trans ((Adv.of_ext e66).trans ((Adv.of_ext e69).trans ((Adv.of_ext e72).trans (x130.trans ((Adv.of_ext e132).trans ((Adv.of_ext e135).trans (x140.trans ((Hp.eraseA (σ := [rowR 45 b127 [Value.int .i64 z56.lo, Value.int .i64 z56.hi], ownR [] SpanE 45 v49 l48]) 0).trans ((Adv.of_ext e144).trans ((Adv.of_ext e147).trans ((Adv.of_ext e153).trans (x161.trans (x164.trans (Hp.eraseA (σ := [rowR 45 b158 [Value.int .i64 z149.lo, Value.int .i64 z149.hi], ownR [] SpanE 45 v49 l48]) 0))))))))))))))))))))))) r29 f_m_0 (f_m_1.adv hI165.adv) (f_m_2.adv hI165.adv) f_m_3 hz176).mono ?_
            rintro _ w177 ⟨rfl, e178⟩
            refine ⟨_, rfl, ?_⟩
            have hI179 := hI165.ext e178
            refine s_pkT rfl rfl rfl ?_
            refine s_as rfl rfl ?_
            refine Reg.nil ?_
            obtain rfl := Option.some.inj h168
            refine ⟨rfl, z175, ⟨hI179, (Adv.of_ext e178), rfl⟩, Sub.cons rfl (Sub.nil _)⟩
           ·replace h168 := cdF hg174 h168
            refine Reg.pass rfl rfl rfl rfl ?_
            refine Reg.pass rfl rfl rfl rfl ?_
            refine Reg.pass rfl rfl rfl rfl ?_
            refine s_pkF rfl rfl rfl ?_
            refine s_as rfl rfl ?_
            refine Reg.nil ?_
            obtain rfl := Option.some.inj h168
            refine ⟨rfl, false, ⟨hI165, (Adv.refl _ _), rfl⟩, Sub.cons rfl (Sub.nil _)⟩
          ·replace h168 := cdF hg173 h168
           refine Reg.pass rfl rfl rfl rfl ?_
           refine Reg.pass rfl rfl rfl rfl ?_
           refine Reg.pass rfl rfl rfl rfl ?_
           refine s_pkF rfl rfl rfl ?_
           refine s_mv rfl rfl ?_
           refine Reg.pass rfl rfl rfl rfl ?_
           refine Reg.pass rfl rfl rfl rfl ?_
           refine Reg.pass rfl rfl rfl rfl ?_
           refine s_pkF rfl rfl rfl ?_
           refine s_as rfl rfl ?_
           refine Reg.nil ?_
           obtain rfl := Option.some.inj h168
           refine ⟨rfl, false, ⟨hI165, (Adv.refl _ _), rfl⟩, Sub.cons rfl (Sub.nil _)⟩
         ·skip
          rintro x169 w170 ⟨hI171, hA172, rfl⟩
          refine cw_ret ?_
          obtain rfl := Option.some.inj h
          refine fin1 Try.results4 rfl ?_
          exact ⟨rfl, hI171.kp⟩
        ·skip
         refine ⟨_, [], rfl, RSub.nil, rfl, nodupB_spec rfl, ?_⟩
         simp only [relOut]
         have hI180 := hI38.join hI133
         refine y_st 0 hI180 rfl rfl rfl rfl Try.sizeOf45 rfl rfl (one1 rfl (one1 rfl one0)) ?_
         intro w181 hI182 x183
         have hC185 := hI182.freezeRow 0 rfl
         have hI184 := hI182.erase 0
         refine Reg.nil ⟨rfl, .inl rfl, rfl, ?_⟩
         intro w186 e187
         have hI188 := hI184.ext e187
         refine SeaWalk.step [7] (by kernel_rfl) (AllL.cons ?_ (AllL.nil))
         refine ⟨_, [], rfl, RSub.nil, rfl, nodupB_spec rfl, ?_⟩
         simp only [relOut]
         refine s_xt rfl rfl rfl ?_
         refine Reg.nil ⟨rfl, .inl rfl, rfl, ?_⟩
         intro w189 e190
         have hI191 := hI188.ext e190
         refine SeaWalk.step [10] (by kernel_rfl) (AllL.cons ?_ (AllL.nil))
         refine ⟨_, [], rfl, RSub.nil, rfl, nodupB_spec rfl, ?_⟩
         simp only [relOut]
         refine s_as rfl rfl ?_
         refine Reg.nil ⟨rfl, .inl rfl, rfl, ?_⟩
         intro w192 e193
         have hI194 := hI191.ext e193
         refine SeaWalk.done ?_
         refine cw_seq (cw_regF ?_)
         refine s_lda rfl (hC6.adv (hA12.trans ((Adv.of_ext e23).trans (x34.trans (x37.trans ((Hp.eraseA (σ := [rowR 25 b31 [Value.int .i64 z20.traits, v25, v27, Value.int .i64 z20.need]]) 0).trans ((Adv.of_ext e42).trans ((Hp.addLitA (σ := []) SpanE 45 k45).trans (x52.trans ((Adv.of_ext e54).trans ((Adv.of_ext e60).trans ((Adv.of_ext e66).trans ((Adv.of_ext e69).trans ((Adv.of_ext e72).trans (x130.trans ((Adv.of_ext e132).trans (x183.trans ((Hp.eraseA (σ := [rowR 45 b127 [Value.int .i64 z56.lo, Value.int .i64 z56.hi], ownR [] SpanE 45 v49 l48]) 0).trans ((Adv.of_ext e187).trans ((Adv.of_ext e190).trans (Adv.of_ext e193))))))))))))))))))))).cells Try.isAgg25 rfl Try.sizeOf25 rfl ?_
         refine s_mv rfl rfl ?_
         obtain ⟨⟨z195, z196⟩, hz197, h⟩ := bnd h
         refine s_call rfl Try.call23 rfl ?_
         refine (C_ref06_Between hI194.mlt f_m_0 (f_m_1.adv hI194.adv) (f_m_2.adv hI194.adv) f_m_3 (f_x_0.adv hI194.adv) hz197).mono ?_
         rintro _ w198 ⟨rfl, r200, r201, r202, e199⟩
         refine ⟨_, rfl, ?_⟩
         have hI203 := hI194.ext e199
         refine s_mv rfl rfl ?_
         refine s_xt rfl rfl rfl ?_
         refine s_xt rfl rfl rfl ?_
         refine y_al hI203 Try.zeroValue45 rfl rfl ?_
         intro b204 w205 hI206 x207
         refine y_st 0 hI206 rfl rfl rfl rfl Try.sizeOf45 rfl rfl (one1 rfl (one1 rfl one0)) ?_
         intro w208 hI209 x210
         have hC212 := hI209.freezeRow 0 rfl
         have hI211 := hI209.erase 0
         refine s_as rfl rfl ?_
         refine Reg.nil ?_
         obtain ⟨j213, h214, h⟩ := bnd h
         refine cw_sub (L := [(2, _), (5, _), (6, _), (7, _), (8, _), (9, _)]) (Sub.cons rfl (Sub.cons rfl (Sub.cons rfl (Sub.cons rfl (Sub.cons rfl (Sub.cons rfl (Sub.nil _))))))) ?_
         refine cw_seqD 6 (ι := Bool) (fun x215 => [(4, Value.bool x215)]) (fun x215 => fun w216 => Hp w [] M [ownR [] SpanE 45 v49 l48] w216 ∧ Adv (mm [ownR [] SpanE 45 v49 l48] M) (mm [ownR [] SpanE 45 v49 l48] M) w208 w216 ∧ x215 = j213) ?_ ?_
         ·skip
          refine cw_regF ?_
          refine s_lda rfl (hC185.adv ((Adv.of_ext e187).trans ((Adv.of_ext e190).trans ((Adv.of_ext e193).trans ((Adv.of_ext e199).trans (x207.trans (x210.trans (Hp.eraseA (σ := [rowR 45 b204 [Value.int .i64 z195.lo, Value.int .i64 z195.hi], ownR [] SpanE 45 v49 l48]) 0)))))))).cells Try.isAgg45 rfl Try.sizeOf45 rfl ?_
          refine s_lda rfl hC212.cells Try.isAgg45 rfl Try.sizeOf45 rfl ?_
          refine s_eqS (Span_eq (Span.mk z56.lo z56.hi) (Span.mk z195.lo z195.hi)) Try.eqGuardType45 rfl rfl rfl ?_
          refine s_mv rfl rfl ?_
          refine Reg.gsplit (t := 36) rfl (fun hg219 => ?_) (fun hg219 => ?_)
          ·replace h214 := cdT hg219 h214
           refine Reg.take rfl rfl ?_
           refine s_mv rfl rfl ?_
           refine Reg.take rfl rfl ?_
           refine s_mv rfl rfl ?_
           refine Reg.take rfl rfl ?_
           refine s_eql rfl rfl rfl ?_
           refine s_pkT rfl rfl rfl ?_
           refine s_mv rfl rfl ?_
           refine Reg.gsplit (t := 41) rfl (fun hg220 => ?_) (fun hg220 => ?_)
           ·replace h214 := cdT hg220 h214
            refine Reg.take rfl rfl ?_
            refine s_lda rfl (hC39.adv ((Adv.of_ext e42).trans ((Hp.addLitA (σ := []) SpanE 45 k45).trans (x52.trans ((Adv.of_ext e54).trans ((Adv.of_ext e60).trans ((Adv.of_ext e66).trans ((Adv.of_ext e69).trans ((Adv.of_ext e72).trans (x130.trans ((Adv.of_ext e132).trans (x183.trans ((Hp.eraseA (σ := [rowR 45 b127 [Value.int .i64 z56.lo, Value.int .i64 z56.hi], ownR [] SpanE 45 v49 l48]) 0).trans ((Adv.of_ext e187).trans ((Adv.of_ext e190).trans ((Adv.of_ext e193).trans ((Adv.of_ext e199).trans (x207.trans (x210.trans (Hp.eraseA (σ := [rowR 45 b204 [Value.int .i64 z195.lo, Value.int .i64 z195.hi], ownR [] SpanE 45 v49 l48]) 0)))))))))))))))))))).cells Try.isAgg25 rfl Try.sizeOf25 rfl ?_
            refine Reg.take rfl rfl ?_
            refine s_lda rfl (hC6.adv (hA12.trans ((Adv.of_ext e23).trans (x34.trans (x37.trans ((Hp.eraseA (σ := [rowR 25 b31 [Value.int .i64 z20.traits, v25, v27, Value.int .i64 z20.need]]) 0).trans ((Adv.of_ext e42).trans ((Hp.addLitA (σ := []) SpanE 45 k45).trans (x52.trans ((Adv.of_ext e54).trans ((Adv.of_ext e60).trans ((Adv.of_ext e66).trans ((Adv.of_ext e69).trans ((Adv.of_ext e72).trans (x130.trans ((Adv.of_ext e132).trans (x183.trans ((Hp.eraseA (σ := [rowR 45 b127 [Value.int .i64 z56.lo, Value.int .i64 z56.hi], ownR [] SpanE 45 v49 l48]) 0).trans ((Adv.of_ext e187).trans ((Adv.of_ext e190).trans ((Adv.of_ext e193).trans ((Adv.of_ext e199).trans (x207.trans (x210.trans (Hp.eraseA (σ := [rowR 45 b204 [Value.int .i64 z195.lo, Value.int .i64 z195.hi], ownR [] SpanE 45 v49 l48]) 0))))))))))))))))))))))))).cells Try.isAgg25 rfl Try.sizeOf25 rfl ?_
            refine Reg.take rfl rfl ?_
            obtain ⟨z221, hz222, h214⟩ := bnd h214
            refine s_call rfl Try.call21 rfl ?_
            refine (C_ref06_Same hI211.mlt r24 (hf26.adv (x34.trans (x37.trans ((Hp.eraseA (σ := [rowR 25 b31 [Value.int .i64 z20.traits, v25, v27, Value.int .i64 z20.need]]) 0).trans ((Adv.of_ext e42).trans ((Hp.addLitA (σ := []) SpanE 45 k45).trans (x52.trans ((Adv.of_ext e54).trans ((Adv.of_ext e60).trans ((Adv.of_ext e66).trans ((Adv.of_ext e69).trans ((Adv.of_ext e72).trans (x130.trans ((Adv.of_ext e132).trans (x183.trans ((Hp.eraseA (σ := [rowR 45 b127 [Value.int .i64 z56.lo, Value.int .i64 z56.hi], ownR [] SpanE 45 v49 l48]) 0).trans ((Adv.of_ext e187).trans ((Adv.of_ext e190).trans ((Adv.of_ext e193).trans ((Adv.of_ext e199).trans (x207.trans (x210.trans (Hp.eraseA (σ := [rowR 45 b204 [Value.int .i64 z195.lo, Value.int .i64 z195.hi], ownR [] SpanE 45 v49 l48]) 0))))))))))))))))))))))) (hf28.adv (x34.trans (x37.trans ((Hp.eraseA (σ := [rowR 25 b31 [Value.int .i64 z20.traits, v25, v27, Value.int .i64 z20.need]]) 0).trans ((Adv.of_ext e42).trans ((Hp.addLitA (σ := []) SpanE 45 k45).trans (x52.trans ((Adv.of_ext e54).trans ((Adv.of_ext e60).trans ((Adv.of_ext e66).trans ((Adv.of_ext e69).trans ((Adv.of_ext e72).trans (x130.trans ((Adv.of_ext e132).trans (x183.trans ((Hp.eraseA (σ := [rowR 45 b127 [Value.int .i64 z56.lo, Value.int .i64 z56.hi], ownR [] SpanE 45 v49 l48]) 0).trans ((Adv.of_ext e187).trans ((Adv.of_ext e190).trans ((Adv.of_ext e193).trans ((Adv.of_ext e199).trans (x207.trans (x210.trans (Hp.eraseA (σ := [rowR 45 b204 [Value.int .i64 z195.lo, Value.int .i64 z195.hi], ownR [] SpanE 45 v49 l48]) 0))))))))))))))))))))))) r29 f_m_0 (f_m_1.adv hI211.adv) (f_m_2.adv hI211.adv) f_m_3 hz222).mono ?_
            rintro _ w223 ⟨rfl, e224⟩
            refine ⟨_, rfl, ?_⟩
            have hI225 := hI211.ext e224
            refine s_pkT rfl rfl rfl ?_
            refine s_as rfl rfl ?_
            refine Reg.nil ?_
            obtain rfl := Option.some.inj h214
            refine ⟨rfl, z221, ⟨hI225, (Adv.of_ext e224), rfl⟩, Sub.cons rfl (Sub.nil _)⟩
           ·replace h214 := cdF hg220 h214
            refine Reg.pass rfl rfl rfl rfl ?_
            refine Reg.pass rfl rfl rfl rfl ?_
            refine Reg.pass rfl rfl rfl rfl ?_
            refine s_pkF rfl rfl rfl ?_
            refine s_as rfl rfl ?_
            refine Reg.nil ?_
            obtain rfl := Option.some.inj h214
            refine ⟨rfl, false, ⟨hI211, (Adv.refl _ _), rfl⟩, Sub.cons rfl (Sub.nil _)⟩
          ·replace h214 := cdF hg219 h214
           refine Reg.pass rfl rfl rfl rfl ?_
           refine Reg.pass rfl rfl rfl rfl ?_
           refine Reg.pass rfl rfl rfl rfl ?_
           refine s_pkF rfl rfl rfl ?_
           refine s_mv rfl rfl ?_
           refine Reg.pass rfl rfl rfl rfl ?_
           refine Reg.pass rfl rfl rfl rfl ?_
           refine Reg.pass rfl rfl rfl rfl ?_
           refine s_pkF rfl rfl rfl ?_
           refine s_as rfl rfl ?_
           refine Reg.nil ?_
           obtain rfl := Option.some.inj h214
           refine ⟨rfl, false, ⟨hI211, (Adv.refl _ _), rfl⟩, Sub.cons rfl (Sub.nil _)⟩
         ·skip
          rintro x215 w216 ⟨hI217, hA218, rfl⟩
          refine cw_ret ?_
          obtain rfl := Option.some.inj h
          refine fin1 Try.results4 rfl ?_
          exact ⟨rfl, hI217.kp⟩
      ·skip
       refine ⟨_, [], rfl, RSub.nil, rfl, nodupB_spec rfl, ?_⟩
       simp only [relOut]
       refine s_xt rfl rfl rfl ?_
       refine Reg.nil ⟨rfl, .inr hI70.kp, rfl, ?_⟩
       intro w226 e227
       have hI228 := hI70.ext e227
       refine SeaWalk.step [6, 8] (by kernel_rfl) (AllL.cons ?_ (AllL.cons ?_ (AllL.nil)))
       ·skip
        refine ⟨_, [], rfl, RSub.nil, rfl, nodupB_spec rfl, ?_⟩
        simp only [relOut]
        refine s_xt rfl rfl rfl ?_
        refine Reg.nil ⟨rfl, .inr hI228.kp, rfl, ?_⟩
        intro w229 e230
        have hI231 := hI228.ext e230
        refine SeaWalk.step [8] (by kernel_rfl) (AllL.cons ?_ (AllL.nil))
        refine ⟨_, [], rfl, RSub.nil, rfl, nodupB_spec rfl, ?_⟩
        simp only [relOut]
        refine y_al hI231 Try.zeroValue45 rfl rfl ?_
        intro b232 w233 hI234 x235
        refine Reg.nil ⟨rfl, .inr hI234.kp, rfl, ?_⟩
        intro w236 e237
        have hI238 := hI234.ext e237
        refine SeaWalk.step [9] (by kernel_rfl) (AllL.cons ?_ (AllL.nil))
        refine ⟨_, [], rfl, RSub.nil, rfl, nodupB_spec rfl, ?_⟩
        simp only [relOut]
        have hI239 := hI38.join hI238
        refine y_st 0 hI239 rfl rfl rfl rfl Try.sizeOf45 rfl rfl (one1 rfl (one1 rfl one0)) ?_
        intro w240 hI241 x242
        have hC244 := hI241.freezeRow 0 rfl
        have hI243 := hI241.erase 0
        refine Reg.nil ⟨rfl, .inl rfl, rfl, ?_⟩
        intro w245 e246
        have hI247 := hI243.ext e246
        refine SeaWalk.step [10] (by kernel_rfl) (AllL.cons ?_ (AllL.nil))
        refine ⟨_, [], rfl, RSub.nil, rfl, nodupB_spec rfl, ?_⟩
        simp only [relOut]
        refine s_as rfl rfl ?_
        refine Reg.nil ⟨rfl, .inl rfl, rfl, ?_⟩
        intro w248 e249
        have hI250 := hI247.ext e249
        refine SeaWalk.done ?_
        refine cw_seq (cw_regF ?_)
        refine s_lda rfl (hC6.adv (hA12.trans ((Adv.of_ext e23).trans (x34.trans (x37.trans ((Hp.eraseA (σ := [rowR 25 b31 [Value.int .i64 z20.traits, v25, v27, Value.int .i64 z20.need]]) 0).trans ((Adv.of_ext e42).trans ((Hp.addLitA (σ := []) SpanE 45 k45).trans (x52.trans ((Adv.of_ext e54).trans ((Adv.of_ext e60).trans ((Adv.of_ext e66).trans ((Adv.of_ext e69).trans ((Adv.of_ext e227).trans ((Adv.of_ext e230).trans (x235.trans ((Adv.of_ext e237).trans (x242.trans ((Hp.eraseA (σ := [rowR 45 b232 [Value.int .i64 z56.lo, Value.int .i64 z56.hi], ownR [] SpanE 45 v49 l48]) 0).trans ((Adv.of_ext e246).trans (Adv.of_ext e249))))))))))))))))))))).cells Try.isAgg25 rfl Try.sizeOf25 rfl ?_
        refine s_mv rfl rfl ?_
        obtain ⟨⟨z251, z252⟩, hz253, h⟩ := bnd h
        refine s_call rfl Try.call23 rfl ?_
        refine (C_ref06_Between hI250.mlt f_m_0 (f_m_1.adv hI250.adv) (f_m_2.adv hI250.adv) f_m_3 (f_x_0.adv hI250.adv) hz253).mono ?_
        rintro _ w254 ⟨rfl, r256, r257, r258, e255⟩
        refine ⟨_, rfl, ?_⟩
        have hI259 := hI250.ext e255
        refine s_mv rfl rfl ?_
        refine s_xt rfl rfl rfl ?_
        refine s_xt rfl rfl rfl ?_
        refine y_al hI259 Try.zeroValue45 rfl rfl ?_
        intro b260 w261 hI262 x263
        refine y_st 0 hI262 rfl rfl rfl rfl Try.sizeOf45 rfl rfl (one1 rfl (one1 rfl one0)) ?_
        intro w264 hI265 x266
        have hC268 := hI265.freezeRow 0 rfl
        have hI267 := hI265.erase 0
        refine s_as rfl rfl ?_
        refine Reg.nil ?_
        obtain ⟨j269, h270, h⟩ := bnd h
        refine cw_sub (L := [(2, _), (5, _), (6, _), (7, _), (8, _), (9, _)]) (Sub.cons rfl (Sub.cons rfl (Sub.cons rfl (Sub.cons rfl (Sub.cons rfl (Sub.cons rfl (Sub.nil _))))))) ?_
        refine cw_seqD 6 (ι := Bool) (fun x271 => [(4, Value.bool x271)]) (fun x271 => fun w272 => Hp w [] M [ownR [] SpanE 45 v49 l48] w272 ∧ Adv (mm [ownR [] SpanE 45 v49 l48] M) (mm [ownR [] SpanE 45 v49 l48] M) w264 w272 ∧ x271 = j269) ?_ ?_
        ·skip
         refine cw_regF ?_
         refine s_lda rfl (hC244.adv ((Adv.of_ext e246).trans ((Adv.of_ext e249).trans ((Adv.of_ext e255).trans (x263.trans (x266.trans (Hp.eraseA (σ := [rowR 45 b260 [Value.int .i64 z251.lo, Value.int .i64 z251.hi], ownR [] SpanE 45 v49 l48]) 0))))))).cells Try.isAgg45 rfl Try.sizeOf45 rfl ?_
         refine s_lda rfl hC268.cells Try.isAgg45 rfl Try.sizeOf45 rfl ?_
         refine s_eqS (Span_eq (Span.mk z56.lo z56.hi) (Span.mk z251.lo z251.hi)) Try.eqGuardType45 rfl rfl rfl ?_
         refine s_mv rfl rfl ?_
         refine Reg.gsplit (t := 36) rfl (fun hg275 => ?_) (fun hg275 => ?_)
         ·replace h270 := cdT hg275 h270
          refine Reg.take rfl rfl ?_
          refine s_mv rfl rfl ?_
          refine Reg.take rfl rfl ?_
          refine s_mv rfl rfl ?_
          refine Reg.take rfl rfl ?_
          refine s_eql rfl rfl rfl ?_
          refine s_pkT rfl rfl rfl ?_
          refine s_mv rfl rfl ?_
          refine Reg.gsplit (t := 41) rfl (fun hg276 => ?_) (fun hg276 => ?_)
          ·replace h270 := cdT hg276 h270
           refine Reg.take rfl rfl ?_
           refine s_lda rfl (hC39.adv ((Adv.of_ext e42).trans ((Hp.addLitA (σ := []) SpanE 45 k45).trans (x52.trans ((Adv.of_ext e54).trans ((Adv.of_ext e60).trans ((Adv.of_ext e66).trans ((Adv.of_ext e69).trans ((Adv.of_ext e227).trans ((Adv.of_ext e230).trans (x235.trans ((Adv.of_ext e237).trans (x242.trans ((Hp.eraseA (σ := [rowR 45 b232 [Value.int .i64 z56.lo, Value.int .i64 z56.hi], ownR [] SpanE 45 v49 l48]) 0).trans ((Adv.of_ext e246).trans ((Adv.of_ext e249).trans ((Adv.of_ext e255).trans (x263.trans (x266.trans (Hp.eraseA (σ := [rowR 45 b260 [Value.int .i64 z251.lo, Value.int .i64 z251.hi], ownR [] SpanE 45 v49 l48]) 0)))))))))))))))))))).cells Try.isAgg25 rfl Try.sizeOf25 rfl ?_
           refine Reg.take rfl rfl ?_
           refine s_lda rfl (hC6.adv (hA12.trans ((Adv.of_ext e23).trans (x34.trans (x37.trans ((Hp.eraseA (σ := [rowR 25 b31 [Value.int .i64 z20.traits, v25, v27, Value.int .i64 z20.need]]) 0).trans ((Adv.of_ext e42).trans ((Hp.addLitA (σ := []) SpanE 45 k45).trans (x52.trans ((Adv.of_ext e54).trans ((Adv.of_ext e60).trans ((Adv.of_ext e66).trans ((Adv.of_ext e69).trans ((Adv.of_ext e227).trans ((Adv.of_ext e230).trans (x235.trans ((Adv.of_ext e237).trans (x242.trans ((Hp.eraseA (σ := [rowR 45 b232 [Value.int .i64 z56.lo, Value.int .i64 z56.hi], ownR [] SpanE 45 v49 l48]) 0).trans ((Adv.of_ext e246).trans ((Adv.of_ext e249).trans ((Adv.of_ext e255).trans (x263.trans (x266.trans (Hp.eraseA (σ := [rowR 45 b260 [Value.int .i64 z251.lo, Value.int .i64 z251.hi], ownR [] SpanE 45 v49 l48]) 0))))))))))))))))))))))))).cells Try.isAgg25 rfl Try.sizeOf25 rfl ?_
           refine Reg.take rfl rfl ?_
           obtain ⟨z277, hz278, h270⟩ := bnd h270
           refine s_call rfl Try.call21 rfl ?_
           refine (C_ref06_Same hI267.mlt r24 (hf26.adv (x34.trans (x37.trans ((Hp.eraseA (σ := [rowR 25 b31 [Value.int .i64 z20.traits, v25, v27, Value.int .i64 z20.need]]) 0).trans ((Adv.of_ext e42).trans ((Hp.addLitA (σ := []) SpanE 45 k45).trans (x52.trans ((Adv.of_ext e54).trans ((Adv.of_ext e60).trans ((Adv.of_ext e66).trans ((Adv.of_ext e69).trans ((Adv.of_ext e227).trans ((Adv.of_ext e230).trans (x235.trans ((Adv.of_ext e237).trans (x242.trans ((Hp.eraseA (σ := [rowR 45 b232 [Value.int .i64 z56.lo, Value.int .i64 z56.hi], ownR [] SpanE 45 v49 l48]) 0).trans ((Adv.of_ext e246).trans ((Adv.of_ext e249).trans ((Adv.of_ext e255).trans (x263.trans (x266.trans (Hp.eraseA (σ := [rowR 45 b260 [Value.int .i64 z251.lo, Value.int .i64 z251.hi], ownR [] SpanE 45 v49 l48]) 0))))))))))))))))))))))) (hf28.adv (x34.trans (x37.trans ((Hp.eraseA (σ := [rowR 25 b31 [Value.int .i64 z20.traits, v25, v27, Value.int .i64 z20.need]]) 0).trans ((Adv.of_ext e42).trans ((Hp.addLitA (σ := []) SpanE 45 k45).trans (x52.trans ((Adv.of_ext e54).trans ((Adv.of_ext e60).trans ((Adv.of_ext e66).trans ((Adv.of_ext e69).trans ((Adv.of_ext e227).trans ((Adv.of_ext e230).trans (x235.trans ((Adv.of_ext e237).trans (x242.trans ((Hp.eraseA (σ := [rowR 45 b232 [Value.int .i64 z56.lo, Value.int .i64 z56.hi], ownR [] SpanE 45 v49 l48]) 0).trans ((Adv.of_ext e246).trans ((Adv.of_ext e249).trans ((Adv.of_ext e255).trans (x263.trans (x266.trans (Hp.eraseA (σ := [rowR 45 b260 [Value.int .i64 z251.lo, Value.int .i64 z251.hi], ownR [] SpanE 45 v49 l48]) 0))))))))))))))))))))))) r29 f_m_0 (f_m_1.adv hI267.adv) (f_m_2.adv hI267.adv) f_m_3 hz278).mono ?_
           rintro _ w279 ⟨rfl, e280⟩
           refine ⟨_, rfl, ?_⟩
           have hI281 := hI267.ext e280
           refine s_pkT rfl rfl rfl ?_
           refine s_as rfl rfl ?_
           refine Reg.nil ?_
           obtain rfl := Option.some.inj h270
           refine ⟨rfl, z277, ⟨hI281, (Adv.of_ext e280), rfl⟩, Sub.cons rfl (Sub.nil _)⟩
          ·replace h270 := cdF hg276 h270
           refine Reg.pass rfl rfl rfl rfl ?_
           refine Reg.pass rfl rfl rfl rfl ?_
           refine Reg.pass rfl rfl rfl rfl ?_
           refine s_pkF rfl rfl rfl ?_
           refine s_as rfl rfl ?_
           refine Reg.nil ?_
           obtain rfl := Option.some.inj h270
           refine ⟨rfl, false, ⟨hI267, (Adv.refl _ _), rfl⟩, Sub.cons rfl (Sub.nil _)⟩
         ·replace h270 := cdF hg275 h270
          refine Reg.pass rfl rfl rfl rfl ?_
          refine Reg.pass rfl rfl rfl rfl ?_
          refine Reg.pass rfl rfl rfl rfl ?_
          refine s_pkF rfl rfl rfl ?_
          refine s_mv rfl rfl ?_
          refine Reg.pass rfl rfl rfl rfl ?_
          refine Reg.pass rfl rfl rfl rfl ?_
          refine Reg.pass rfl rfl rfl rfl ?_
          refine s_pkF rfl rfl rfl ?_
          refine s_as rfl rfl ?_
          refine Reg.nil ?_
          obtain rfl := Option.some.inj h270
          refine ⟨rfl, false, ⟨hI267, (Adv.refl _ _), rfl⟩, Sub.cons rfl (Sub.nil _)⟩
        ·skip
         rintro x271 w272 ⟨hI273, hA274, rfl⟩
         refine cw_ret ?_
         obtain rfl := Option.some.inj h
         refine fin1 Try.results4 rfl ?_
         exact ⟨rfl, hI273.kp⟩
       ·skip
        refine ⟨_, [], rfl, RSub.nil, rfl, nodupB_spec rfl, ?_⟩
        simp only [relOut]
        refine y_al hI228 Try.zeroValue45 rfl rfl ?_
        intro b282 w283 hI284 x285
        refine Reg.nil ⟨rfl, .inr hI284.kp, rfl, ?_⟩
        intro w286 e287
        have hI288 := hI284.ext e287
        refine SeaWalk.step [6] (by kernel_rfl) (AllL.cons ?_ (AllL.nil))
        refine ⟨_, [], rfl, RSub.nil, rfl, nodupB_spec rfl, ?_⟩
        simp only [relOut]
        refine s_xt rfl rfl rfl ?_
        refine Reg.nil ⟨rfl, .inr hI288.kp, rfl, ?_⟩
        intro w289 e290
        have hI291 := hI288.ext e290
        refine SeaWalk.step [9] (by kernel_rfl) (AllL.cons ?_ (AllL.nil))
        refine ⟨_, [], rfl, RSub.nil, rfl, nodupB_spec rfl, ?_⟩
        simp only [relOut]
        have hI292 := hI38.join hI291
        refine y_st 0 hI292 rfl rfl rfl rfl Try.sizeOf45 rfl rfl (one1 rfl (one1 rfl one0)) ?_
        intro w293 hI294 x295
        have hC297 := hI294.freezeRow 0 rfl
        have hI296 := hI294.erase 0
        refine Reg.nil ⟨rfl, .inl rfl, rfl, ?_⟩
        intro w298 e299
        have hI300 := hI296.ext e299
        refine SeaWalk.step [10] (by kernel_rfl) (AllL.cons ?_ (AllL.nil))
        refine ⟨_, [], rfl, RSub.nil, rfl, nodupB_spec rfl, ?_⟩
        simp only [relOut]
        refine s_as rfl rfl ?_
        refine Reg.nil ⟨rfl, .inl rfl, rfl, ?_⟩
        intro w301 e302
        have hI303 := hI300.ext e302
        refine SeaWalk.done ?_
        refine cw_seq (cw_regF ?_)
        refine s_lda rfl (hC6.adv (hA12.trans ((Adv.of_ext e23).trans (x34.trans (x37.trans ((Hp.eraseA (σ := [rowR 25 b31 [Value.int .i64 z20.traits, v25, v27, Value.int .i64 z20.need]]) 0).trans ((Adv.of_ext e42).trans ((Hp.addLitA (σ := []) SpanE 45 k45).trans (x52.trans ((Adv.of_ext e54).trans ((Adv.of_ext e60).trans ((Adv.of_ext e66).trans ((Adv.of_ext e69).trans ((Adv.of_ext e227).trans (x285.trans ((Adv.of_ext e287).trans ((Adv.of_ext e290).trans (x295.trans ((Hp.eraseA (σ := [rowR 45 b282 [Value.int .i64 z56.lo, Value.int .i64 z56.hi], ownR [] SpanE 45 v49 l48]) 0).trans ((Adv.of_ext e299).trans (Adv.of_ext e302))))))))))))))))))))).cells Try.isAgg25 rfl Try.sizeOf25 rfl ?_
        refine s_mv rfl rfl ?_
        obtain ⟨⟨z304, z305⟩, hz306, h⟩ := bnd h
        refine s_call rfl Try.call23 rfl ?_
        refine (C_ref06_Between hI303.mlt f_m_0 (f_m_1.adv hI303.adv) (f_m_2.adv hI303.adv) f_m_3 (f_x_0.adv hI303.adv) hz306).mono ?_
        rintro _ w307 ⟨rfl, r309, r310, r311, e308⟩
        refine ⟨_, rfl, ?_⟩
        have hI312 := hI303.ext e308
        refine s_mv rfl rfl ?_
        refine s_xt rfl rfl rfl ?_
        refine s_xt rfl rfl rfl ?_
        refine y_al hI312 Try.zeroValue45 rfl rfl ?_
        intro b313 w314 hI315 x316
        refine y_st 0 hI315 rfl rfl rfl rfl Try.sizeOf45 rfl rfl (one1 rfl (one1 rfl one0)) ?_
        intro w317 hI318 x319
        have hC321 := hI318.freezeRow 0 rfl
        have hI320 := hI318.erase 0
        refine s_as rfl rfl ?_
        refine Reg.nil ?_
        obtain ⟨j322, h323, h⟩ := bnd h
        refine cw_sub (L := [(2, _), (5, _), (6, _), (7, _), (8, _), (9, _)]) (Sub.cons rfl (Sub.cons rfl (Sub.cons rfl (Sub.cons rfl (Sub.cons rfl (Sub.cons rfl (Sub.nil _))))))) ?_
        refine cw_seqD 6 (ι := Bool) (fun x324 => [(4, Value.bool x324)]) (fun x324 => fun w325 => Hp w [] M [ownR [] SpanE 45 v49 l48] w325 ∧ Adv (mm [ownR [] SpanE 45 v49 l48] M) (mm [ownR [] SpanE 45 v49 l48] M) w317 w325 ∧ x324 = j322) ?_ ?_
        ·skip
         refine cw_regF ?_
         refine s_lda rfl (hC297.adv ((Adv.of_ext e299).trans ((Adv.of_ext e302).trans ((Adv.of_ext e308).trans (x316.trans (x319.trans (Hp.eraseA (σ := [rowR 45 b313 [Value.int .i64 z304.lo, Value.int .i64 z304.hi], ownR [] SpanE 45 v49 l48]) 0))))))).cells Try.isAgg45 rfl Try.sizeOf45 rfl ?_
         refine s_lda rfl hC321.cells Try.isAgg45 rfl Try.sizeOf45 rfl ?_
         refine s_eqS (Span_eq (Span.mk z56.lo z56.hi) (Span.mk z304.lo z304.hi)) Try.eqGuardType45 rfl rfl rfl ?_
         refine s_mv rfl rfl ?_
         refine Reg.gsplit (t := 36) rfl (fun hg328 => ?_) (fun hg328 => ?_)
         ·replace h323 := cdT hg328 h323
          refine Reg.take rfl rfl ?_
          refine s_mv rfl rfl ?_
          refine Reg.take rfl rfl ?_
          refine s_mv rfl rfl ?_
          refine Reg.take rfl rfl ?_
          refine s_eql rfl rfl rfl ?_
          refine s_pkT rfl rfl rfl ?_
          refine s_mv rfl rfl ?_
          refine Reg.gsplit (t := 41) rfl (fun hg329 => ?_) (fun hg329 => ?_)
          ·replace h323 := cdT hg329 h323
           refine Reg.take rfl rfl ?_
           refine s_lda rfl (hC39.adv ((Adv.of_ext e42).trans ((Hp.addLitA (σ := []) SpanE 45 k45).trans (x52.trans ((Adv.of_ext e54).trans ((Adv.of_ext e60).trans ((Adv.of_ext e66).trans ((Adv.of_ext e69).trans ((Adv.of_ext e227).trans (x285.trans ((Adv.of_ext e287).trans ((Adv.of_ext e290).trans (x295.trans ((Hp.eraseA (σ := [rowR 45 b282 [Value.int .i64 z56.lo, Value.int .i64 z56.hi], ownR [] SpanE 45 v49 l48]) 0).trans ((Adv.of_ext e299).trans ((Adv.of_ext e302).trans ((Adv.of_ext e308).trans (x316.trans (x319.trans (Hp.eraseA (σ := [rowR 45 b313 [Value.int .i64 z304.lo, Value.int .i64 z304.hi], ownR [] SpanE 45 v49 l48]) 0)))))))))))))))))))).cells Try.isAgg25 rfl Try.sizeOf25 rfl ?_
           refine Reg.take rfl rfl ?_
           refine s_lda rfl (hC6.adv (hA12.trans ((Adv.of_ext e23).trans (x34.trans (x37.trans ((Hp.eraseA (σ := [rowR 25 b31 [Value.int .i64 z20.traits, v25, v27, Value.int .i64 z20.need]]) 0).trans ((Adv.of_ext e42).trans ((Hp.addLitA (σ := []) SpanE 45 k45).trans (x52.trans ((Adv.of_ext e54).trans ((Adv.of_ext e60).trans ((Adv.of_ext e66).trans ((Adv.of_ext e69).trans ((Adv.of_ext e227).trans (x285.trans ((Adv.of_ext e287).trans ((Adv.of_ext e290).trans (x295.trans ((Hp.eraseA (σ := [rowR 45 b282 [Value.int .i64 z56.lo, Value.int .i64 z56.hi], ownR [] SpanE 45 v49 l48]) 0).trans ((Adv.of_ext e299).trans ((Adv.of_ext e302).trans ((Adv.of_ext e308).trans (x316.trans (x319.trans (Hp.eraseA (σ := [rowR 45 b313 [Value.int .i64 z304.lo, Value.int .i64 z304.hi], ownR [] SpanE 45 v49 l48]) 0))))))))))))))))))))))))).cells Try.isAgg25 rfl Try.sizeOf25 rfl ?_
           refine Reg.take rfl rfl ?_
           obtain ⟨z330, hz331, h323⟩ := bnd h323
           refine s_call rfl Try.call21 rfl ?_
           refine (C_ref06_Same hI320.mlt r24 (hf26.adv (x34.trans (x37.trans ((Hp.eraseA (σ := [rowR 25 b31 [Value.int .i64 z20.traits, v25, v27, Value.int .i64 z20.need]]) 0).trans ((Adv.of_ext e42).trans ((Hp.addLitA (σ := []) SpanE 45 k45).trans (x52.trans ((Adv.of_ext e54).trans ((Adv.of_ext e60).trans ((Adv.of_ext e66).trans ((Adv.of_ext e69).trans ((Adv.of_ext e227).trans (x285.trans ((Adv.of_ext e287).trans ((Adv.of_ext e290).trans (x295.trans ((Hp.eraseA (σ := [rowR 45 b282 [Value.int .i64 z56.lo, Value.int .i64 z56.hi], ownR [] SpanE 45 v49 l48]) 0).trans ((Adv.of_ext e299).trans ((Adv.of_ext e302).trans ((Adv.of_ext e308).trans (x316.trans (x319.trans (Hp.eraseA (σ := [rowR 45 b313 [Value.int .i64 z304.lo, Value.int .i64 z304.hi], ownR [] SpanE 45 v49 l48]) 0))))))))))))))))))))))) (hf28.adv (x34.trans (x37.trans ((Hp.eraseA (σ := [rowR 25 b31 [Value.int .i64 z20.traits, v25, v27, Value.int .i64 z20.need]]) 0).trans ((Adv.of_ext e42).trans ((Hp.addLitA (σ := []) SpanE 45 k45).trans (x52.trans ((Adv.of_ext e54).trans ((Adv.of_ext e60).trans ((Adv.of_ext e66).trans ((Adv.of_ext e69).trans ((Adv.of_ext e227).trans (x285.trans ((Adv.of_ext e287).trans ((Adv.of_ext e290).trans (x295.trans ((Hp.eraseA (σ := [rowR 45 b282 [Value.int .i64 z56.lo, Value.int .i64 z56.hi], ownR [] SpanE 45 v49 l48]) 0).trans ((Adv.of_ext e299).trans ((Adv.of_ext e302).trans ((Adv.of_ext e308).trans (x316.trans (x319.trans (Hp.eraseA (σ := [rowR 45 b313 [Value.int .i64 z304.lo, Value.int .i64 z304.hi], ownR [] SpanE 45 v49 l48]) 0))))))))))))))))))))))) r29 f_m_0 (f_m_1.adv hI320.adv) (f_m_2.adv hI320.adv) f_m_3 hz331).mono ?_
           rintro _ w332 ⟨rfl, e333⟩
           refine ⟨_, rfl, ?_⟩
           have hI334 := hI320.ext e333
           refine s_pkT rfl rfl rfl ?_
           refine s_as rfl rfl ?_
           refine Reg.nil ?_
           obtain rfl := Option.some.inj h323
           refine ⟨rfl, z330, ⟨hI334, (Adv.of_ext e333), rfl⟩, Sub.cons rfl (Sub.nil _)⟩
          ·replace h323 := cdF hg329 h323
           refine Reg.pass rfl rfl rfl rfl ?_
           refine Reg.pass rfl rfl rfl rfl ?_
           refine Reg.pass rfl rfl rfl rfl ?_
           refine s_pkF rfl rfl rfl ?_
           refine s_as rfl rfl ?_
           refine Reg.nil ?_
           obtain rfl := Option.some.inj h323
           refine ⟨rfl, false, ⟨hI320, (Adv.refl _ _), rfl⟩, Sub.cons rfl (Sub.nil _)⟩
         ·replace h323 := cdF hg328 h323
          refine Reg.pass rfl rfl rfl rfl ?_
          refine Reg.pass rfl rfl rfl rfl ?_
          refine Reg.pass rfl rfl rfl rfl ?_
          refine s_pkF rfl rfl rfl ?_
          refine s_mv rfl rfl ?_
          refine Reg.pass rfl rfl rfl rfl ?_
          refine Reg.pass rfl rfl rfl rfl ?_
          refine Reg.pass rfl rfl rfl rfl ?_
          refine s_pkF rfl rfl rfl ?_
          refine s_as rfl rfl ?_
          refine Reg.nil ?_
          obtain rfl := Option.some.inj h323
          refine ⟨rfl, false, ⟨hI320, (Adv.refl _ _), rfl⟩, Sub.cons rfl (Sub.nil _)⟩
        ·skip
         rintro x324 w325 ⟨hI326, hA327, rfl⟩
         refine cw_ret ?_
         obtain rfl := Option.some.inj h
         refine fin1 Try.results4 rfl ?_
         exact ⟨rfl, hI326.kp⟩
      ·skip
       refine ⟨_, [], rfl, RSub.nil, rfl, nodupB_spec rfl, ?_⟩
       simp only [relOut]
       refine y_al hI70 Try.zeroValue45 rfl rfl ?_
       intro b335 w336 hI337 x338
       refine Reg.nil ⟨rfl, .inr hI337.kp, rfl, ?_⟩
       intro w339 e340
       have hI341 := hI337.ext e340
       refine SeaWalk.step [6, 7] (by kernel_rfl) (AllL.cons ?_ (AllL.cons ?_ (AllL.nil)))
       ·skip
        refine ⟨_, [], rfl, RSub.nil, rfl, nodupB_spec rfl, ?_⟩
        simp only [relOut]
        refine s_xt rfl rfl rfl ?_
        refine Reg.nil ⟨rfl, .inr hI341.kp, rfl, ?_⟩
        intro w342 e343
        have hI344 := hI341.ext e343
        refine SeaWalk.step [7, 9] (by kernel_rfl) (AllL.cons ?_ (AllL.cons ?_ (AllL.nil)))
        ·skip
         refine ⟨_, [], rfl, RSub.nil, rfl, nodupB_spec rfl, ?_⟩
         simp only [relOut]
         refine s_xt rfl rfl rfl ?_
         refine Reg.nil ⟨rfl, .inr hI344.kp, rfl, ?_⟩
         intro w345 e346
         have hI347 := hI344.ext e346
         refine SeaWalk.step [9] (by kernel_rfl) (AllL.cons ?_ (AllL.nil))
         refine ⟨_, [], rfl, RSub.nil, rfl, nodupB_spec rfl, ?_⟩
         simp only [relOut]
         have hI348 := hI38.join hI347
         refine y_st 0 hI348 rfl rfl rfl rfl Try.sizeOf45 rfl rfl (one1 rfl (one1 rfl one0)) ?_
         intro w349 hI350 x351
         have hC353 := hI350.freezeRow 0 rfl
         have hI352 := hI350.erase 0
         refine Reg.nil ⟨rfl, .inl rfl, rfl, ?_⟩
         intro w354 e355
         have hI356 := hI352.ext e355
         refine SeaWalk.step [10] (by kernel_rfl) (AllL.cons ?_ (AllL.nil))
         refine ⟨_, [], rfl, RSub.nil, rfl, nodupB_spec rfl, ?_⟩
         simp only [relOut]
         refine s_as rfl rfl ?_
         refine Reg.nil ⟨rfl, .inl rfl, rfl, ?_⟩
         intro w357 e358
         have hI359 := hI356.ext e358
         refine SeaWalk.done ?_
         refine cw_seq (cw_regF ?_)
         refine s_lda rfl (hC6.adv (hA12.trans ((Adv.of_ext e23).trans (x34.trans (x37.trans ((Hp.eraseA (σ := [rowR 25 b31 [Value.int .i64 z20.traits, v25, v27, Value.int .i64 z20.need]]) 0).trans ((Adv.of_ext e42).trans ((Hp.addLitA (σ := []) SpanE 45 k45).trans (x52.trans ((Adv.of_ext e54).trans ((Adv.of_ext e60).trans ((Adv.of_ext e66).trans ((Adv.of_ext e69).trans (x338.trans ((Adv.of_ext e340).trans ((Adv.of_ext e343).trans ((Adv.of_ext e346).trans (x351.trans ((Hp.eraseA (σ := [rowR 45 b335 [Value.int .i64 z56.lo, Value.int .i64 z56.hi], ownR [] SpanE 45 v49 l48]) 0).trans ((Adv.of_ext e355).trans (Adv.of_ext e358))))))))))))))))))))).cells Try.isAgg25 rfl Try.sizeOf25 rfl ?_
         refine s_mv rfl rfl ?_
         obtain ⟨⟨z360, z361⟩, hz362, h⟩ := bnd h
         refine s_call rfl Try.call23 rfl ?_
         refine (C_ref06_Between hI359.mlt f_m_0 (f_m_1.adv hI359.adv) (f_m_2.adv hI359.adv) f_m_3 (f_x_0.adv hI359.adv) hz362).mono ?_
         rintro _ w363 ⟨rfl, r365, r366, r367, e364⟩
         refine ⟨_, rfl, ?_⟩
         have hI368 := hI359.ext e364
         refine s_mv rfl rfl ?_
         refine s_xt rfl rfl rfl ?_
         refine s_xt rfl rfl rfl ?_
         refine y_al hI368 Try.zeroValue45 rfl rfl ?_
         intro b369 w370 hI371 x372
         refine y_st 0 hI371 rfl rfl rfl rfl Try.sizeOf45 rfl rfl (one1 rfl (one1 rfl one0)) ?_
         intro w373 hI374 x375
         have hC377 := hI374.freezeRow 0 rfl
         have hI376 := hI374.erase 0
         refine s_as rfl rfl ?_
         refine Reg.nil ?_
         obtain ⟨j378, h379, h⟩ := bnd h
         refine cw_sub (L := [(2, _), (5, _), (6, _), (7, _), (8, _), (9, _)]) (Sub.cons rfl (Sub.cons rfl (Sub.cons rfl (Sub.cons rfl (Sub.cons rfl (Sub.cons rfl (Sub.nil _))))))) ?_
         refine cw_seqD 6 (ι := Bool) (fun x380 => [(4, Value.bool x380)]) (fun x380 => fun w381 => Hp w [] M [ownR [] SpanE 45 v49 l48] w381 ∧ Adv (mm [ownR [] SpanE 45 v49 l48] M) (mm [ownR [] SpanE 45 v49 l48] M) w373 w381 ∧ x380 = j378) ?_ ?_
         ·skip
          refine cw_regF ?_
          refine s_lda rfl (hC353.adv ((Adv.of_ext e355).trans ((Adv.of_ext e358).trans ((Adv.of_ext e364).trans (x372.trans (x375.trans (Hp.eraseA (σ := [rowR 45 b369 [Value.int .i64 z360.lo, Value.int .i64 z360.hi], ownR [] SpanE 45 v49 l48]) 0))))))).cells Try.isAgg45 rfl Try.sizeOf45 rfl ?_
          refine s_lda rfl hC377.cells Try.isAgg45 rfl Try.sizeOf45 rfl ?_
          refine s_eqS (Span_eq (Span.mk z56.lo z56.hi) (Span.mk z360.lo z360.hi)) Try.eqGuardType45 rfl rfl rfl ?_
          refine s_mv rfl rfl ?_
          refine Reg.gsplit (t := 36) rfl (fun hg384 => ?_) (fun hg384 => ?_)
          ·replace h379 := cdT hg384 h379
           refine Reg.take rfl rfl ?_
           refine s_mv rfl rfl ?_
           refine Reg.take rfl rfl ?_
           refine s_mv rfl rfl ?_
           refine Reg.take rfl rfl ?_
           refine s_eql rfl rfl rfl ?_
           refine s_pkT rfl rfl rfl ?_
           refine s_mv rfl rfl ?_
           refine Reg.gsplit (t := 41) rfl (fun hg385 => ?_) (fun hg385 => ?_)
           ·replace h379 := cdT hg385 h379
            refine Reg.take rfl rfl ?_
            refine s_lda rfl (hC39.adv ((Adv.of_ext e42).trans ((Hp.addLitA (σ := []) SpanE 45 k45).trans (x52.trans ((Adv.of_ext e54).trans ((Adv.of_ext e60).trans ((Adv.of_ext e66).trans ((Adv.of_ext e69).trans (x338.trans ((Adv.of_ext e340).trans ((Adv.of_ext e343).trans ((Adv.of_ext e346).trans (x351.trans ((Hp.eraseA (σ := [rowR 45 b335 [Value.int .i64 z56.lo, Value.int .i64 z56.hi], ownR [] SpanE 45 v49 l48]) 0).trans ((Adv.of_ext e355).trans ((Adv.of_ext e358).trans ((Adv.of_ext e364).trans (x372.trans (x375.trans (Hp.eraseA (σ := [rowR 45 b369 [Value.int .i64 z360.lo, Value.int .i64 z360.hi], ownR [] SpanE 45 v49 l48]) 0)))))))))))))))))))).cells Try.isAgg25 rfl Try.sizeOf25 rfl ?_
            refine Reg.take rfl rfl ?_
            refine s_lda rfl (hC6.adv (hA12.trans ((Adv.of_ext e23).trans (x34.trans (x37.trans ((Hp.eraseA (σ := [rowR 25 b31 [Value.int .i64 z20.traits, v25, v27, Value.int .i64 z20.need]]) 0).trans ((Adv.of_ext e42).trans ((Hp.addLitA (σ := []) SpanE 45 k45).trans (x52.trans ((Adv.of_ext e54).trans ((Adv.of_ext e60).trans ((Adv.of_ext e66).trans ((Adv.of_ext e69).trans (x338.trans ((Adv.of_ext e340).trans ((Adv.of_ext e343).trans ((Adv.of_ext e346).trans (x351.trans ((Hp.eraseA (σ := [rowR 45 b335 [Value.int .i64 z56.lo, Value.int .i64 z56.hi], ownR [] SpanE 45 v49 l48]) 0).trans ((Adv.of_ext e355).trans ((Adv.of_ext e358).trans ((Adv.of_ext e364).trans (x372.trans (x375.trans (Hp.eraseA (σ := [rowR 45 b369 [Value.int .i64 z360.lo, Value.int .i64 z360.hi], ownR [] SpanE 45 v49 l48]) 0))))))))))))))))))))))))).cells Try.isAgg25 rfl Try.sizeOf25 rfl ?_
            refine Reg.take rfl rfl ?_
            obtain ⟨z386, hz387, h379⟩ := bnd h379
            refine s_call rfl Try.call21 rfl ?_
            refine (C_ref06_Same hI376.mlt r24 (hf26.adv (x34.trans (x37.trans ((Hp.eraseA (σ := [rowR 25 b31 [Value.int .i64 z20.traits, v25, v27, Value.int .i64 z20.need]]) 0).trans ((Adv.of_ext e42).trans ((Hp.addLitA (σ := []) SpanE 45 k45).trans (x52.trans ((Adv.of_ext e54).trans ((Adv.of_ext e60).trans ((Adv.of_ext e66).trans ((Adv.of_ext e69).trans (x338.trans ((Adv.of_ext e340).trans ((Adv.of_ext e343).trans ((Adv.of_ext e346).trans (x351.trans ((Hp.eraseA (σ := [rowR 45 b335 [Value.int .i64 z56.lo, Value.int .i64 z56.hi], ownR [] SpanE 45 v49 l48]) 0).trans ((Adv.of_ext e355).trans ((Adv.of_ext e358).trans ((Adv.of_ext e364).trans (x372.trans (x375.trans (Hp.eraseA (σ := [rowR 45 b369 [Value.int .i64 z360.lo, Value.int .i64 z360.hi], ownR [] SpanE 45 v49 l48]) 0))))))))))))))))))))))) (hf28.adv (x34.trans (x37.trans ((Hp.eraseA (σ := [rowR 25 b31 [Value.int .i64 z20.traits, v25, v27, Value.int .i64 z20.need]]) 0).trans ((Adv.of_ext e42).trans ((Hp.addLitA (σ := []) SpanE 45 k45).trans (x52.trans ((Adv.of_ext e54).trans ((Adv.of_ext e60).trans ((Adv.of_ext e66).trans ((Adv.of_ext e69).trans (x338.trans ((Adv.of_ext e340).trans ((Adv.of_ext e343).trans ((Adv.of_ext e346).trans (x351.trans ((Hp.eraseA (σ := [rowR 45 b335 [Value.int .i64 z56.lo, Value.int .i64 z56.hi], ownR [] SpanE 45 v49 l48]) 0).trans ((Adv.of_ext e355).trans ((Adv.of_ext e358).trans ((Adv.of_ext e364).trans (x372.trans (x375.trans (Hp.eraseA (σ := [rowR 45 b369 [Value.int .i64 z360.lo, Value.int .i64 z360.hi], ownR [] SpanE 45 v49 l48]) 0))))))))))))))))))))))) r29 f_m_0 (f_m_1.adv hI376.adv) (f_m_2.adv hI376.adv) f_m_3 hz387).mono ?_
            rintro _ w388 ⟨rfl, e389⟩
            refine ⟨_, rfl, ?_⟩
            have hI390 := hI376.ext e389
            refine s_pkT rfl rfl rfl ?_
            refine s_as rfl rfl ?_
            refine Reg.nil ?_
            obtain rfl := Option.some.inj h379
            refine ⟨rfl, z386, ⟨hI390, (Adv.of_ext e389), rfl⟩, Sub.cons rfl (Sub.nil _)⟩
           ·replace h379 := cdF hg385 h379
            refine Reg.pass rfl rfl rfl rfl ?_
            refine Reg.pass rfl rfl rfl rfl ?_
            refine Reg.pass rfl rfl rfl rfl ?_
            refine s_pkF rfl rfl rfl ?_
            refine s_as rfl rfl ?_
            refine Reg.nil ?_
            obtain rfl := Option.some.inj h379
            refine ⟨rfl, false, ⟨hI376, (Adv.refl _ _), rfl⟩, Sub.cons rfl (Sub.nil _)⟩
          ·replace h379 := cdF hg384 h379
           refine Reg.pass rfl rfl rfl rfl ?_
           refine Reg.pass rfl rfl rfl rfl ?_
           refine Reg.pass rfl rfl rfl rfl ?_
           refine s_pkF rfl rfl rfl ?_
           refine s_mv rfl rfl ?_
           refine Reg.pass rfl rfl rfl rfl ?_
           refine Reg.pass rfl rfl rfl rfl ?_
           refine Reg.pass rfl rfl rfl rfl ?_
           refine s_pkF rfl rfl rfl ?_
           refine s_as rfl rfl ?_
           refine Reg.nil ?_
           obtain rfl := Option.some.inj h379
           refine ⟨rfl, false, ⟨hI376, (Adv.refl _ _), rfl⟩, Sub.cons rfl (Sub.nil _)⟩
         ·skip
          rintro x380 w381 ⟨hI382, hA383, rfl⟩
          refine cw_ret ?_
          obtain rfl := Option.some.inj h
          refine fin1 Try.results4 rfl ?_
          exact ⟨rfl, hI382.kp⟩
        ·skip
         refine ⟨_, [], rfl, RSub.nil, rfl, nodupB_spec rfl, ?_⟩
         simp only [relOut]
         have hI391 := hI38.join hI344
         refine y_st 0 hI391 rfl rfl rfl rfl Try.sizeOf45 rfl rfl (one1 rfl (one1 rfl one0)) ?_
         intro w392 hI393 x394
         have hC396 := hI393.freezeRow 0 rfl
         have hI395 := hI393.erase 0
         refine Reg.nil ⟨rfl, .inl rfl, rfl, ?_⟩
         intro w397 e398
         have hI399 := hI395.ext e398
         refine SeaWalk.step [7] (by kernel_rfl) (AllL.cons ?_ (AllL.nil))
         refine ⟨_, [], rfl, RSub.nil, rfl, nodupB_spec rfl, ?_⟩
         simp only [relOut]
         refine s_xt rfl rfl rfl ?_
         refine Reg.nil ⟨rfl, .inl rfl, rfl, ?_⟩
         intro w400 e401
         have hI402 := hI399.ext e401
         refine SeaWalk.step [10] (by kernel_rfl) (AllL.cons ?_ (AllL.nil))
         refine ⟨_, [], rfl, RSub.nil, rfl, nodupB_spec rfl, ?_⟩
         simp only [relOut]
         refine s_as rfl rfl ?_
         refine Reg.nil ⟨rfl, .inl rfl, rfl, ?_⟩
         intro w403 e404
         have hI405 := hI402.ext e404
         refine SeaWalk.done ?_
         refine cw_seq (cw_regF ?_)
         refine s_lda rfl (hC6.adv (hA12.trans ((Adv.of_ext e23).trans (x34.trans (x37.trans ((Hp.eraseA (σ := [rowR 25 b31 [Value.int .i64 z20.traits, v25, v27, Value.int .i64 z20.need]]) 0).trans ((Adv.of_ext e42).trans ((Hp.addLitA (σ := []) SpanE 45 k45).trans (x52.trans ((Adv.of_ext e54).trans ((Adv.of_ext e60).trans ((Adv.of_ext e66).trans ((Adv.of_ext e69).trans (x338.trans ((Adv.of_ext e340).trans ((Adv.of_ext e343).trans (x394.trans ((Hp.eraseA (σ := [rowR 45 b335 [Value.int .i64 z56.lo, Value.int .i64 z56.hi], ownR [] SpanE 45 v49 l48]) 0).trans ((Adv.of_ext e398).trans ((Adv.of_ext e401).trans (Adv.of_ext e404))))))))))))))))))))).cells Try.isAgg25 rfl Try.sizeOf25 rfl ?_
         refine s_mv rfl rfl ?_
         obtain ⟨⟨z406, z407⟩, hz408, h⟩ := bnd h
         refine s_call rfl Try.call23 rfl ?_
         refine (C_ref06_Between hI405.mlt f_m_0 (f_m_1.adv hI405.adv) (f_m_2.adv hI405.adv) f_m_3 (f_x_0.adv hI405.adv) hz408).mono ?_
         rintro _ w409 ⟨rfl, r411, r412, r413, e410⟩
         refine ⟨_, rfl, ?_⟩
         have hI414 := hI405.ext e410
         refine s_mv rfl rfl ?_
         refine s_xt rfl rfl rfl ?_
         refine s_xt rfl rfl rfl ?_
         refine y_al hI414 Try.zeroValue45 rfl rfl ?_
         intro b415 w416 hI417 x418
         refine y_st 0 hI417 rfl rfl rfl rfl Try.sizeOf45 rfl rfl (one1 rfl (one1 rfl one0)) ?_
         intro w419 hI420 x421
         have hC423 := hI420.freezeRow 0 rfl
         have hI422 := hI420.erase 0
         refine s_as rfl rfl ?_
         refine Reg.nil ?_
         obtain ⟨j424, h425, h⟩ := bnd h
         refine cw_sub (L := [(2, _), (5, _), (6, _), (7, _), (8, _), (9, _)]) (Sub.cons rfl (Sub.cons rfl (Sub.cons rfl (Sub.cons rfl (Sub.cons rfl (Sub.cons rfl (Sub.nil _))))))) ?_
         refine cw_seqD 6 (ι := Bool) (fun x426 => [(4, Value.bool x426)]) (fun x426 => fun w427 => Hp w [] M [ownR [] SpanE 45 v49 l48] w427 ∧ Adv (mm [ownR [] SpanE 45 v49 l48] M) (mm [ownR [] SpanE 45 v49 l48] M) w419 w427 ∧ x426 = j424) ?_ ?_
         ·skip
          refine cw_regF ?_
          refine s_lda rfl (hC396.adv ((Adv.of_ext e398).trans ((Adv.of_ext e401).trans ((Adv.of_ext e404).trans ((Adv.of_ext e410).trans (x418.trans (x421.trans (Hp.eraseA (σ := [rowR 45 b415 [Value.int .i64 z406.lo, Value.int .i64 z406.hi], ownR [] SpanE 45 v49 l48]) 0)))))))).cells Try.isAgg45 rfl Try.sizeOf45 rfl ?_
          refine s_lda rfl hC423.cells Try.isAgg45 rfl Try.sizeOf45 rfl ?_
          refine s_eqS (Span_eq (Span.mk z56.lo z56.hi) (Span.mk z406.lo z406.hi)) Try.eqGuardType45 rfl rfl rfl ?_
          refine s_mv rfl rfl ?_
          refine Reg.gsplit (t := 36) rfl (fun hg430 => ?_) (fun hg430 => ?_)
          ·replace h425 := cdT hg430 h425
           refine Reg.take rfl rfl ?_
           refine s_mv rfl rfl ?_
           refine Reg.take rfl rfl ?_
           refine s_mv rfl rfl ?_
           refine Reg.take rfl rfl ?_
           refine s_eql rfl rfl rfl ?_
           refine s_pkT rfl rfl rfl ?_
           refine s_mv rfl rfl ?_
           refine Reg.gsplit (t := 41) rfl (fun hg431 => ?_) (fun hg431 => ?_)
           ·replace h425 := cdT hg431 h425
            refine Reg.take rfl rfl ?_
            refine s_lda rfl (hC39.adv ((Adv.of_ext e42).trans ((Hp.addLitA (σ := []) SpanE 45 k45).trans (x52.trans ((Adv.of_ext e54).trans ((Adv.of_ext e60).trans ((Adv.of_ext e66).trans ((Adv.of_ext e69).trans (x338.trans ((Adv.of_ext e340).trans ((Adv.of_ext e343).trans (x394.trans ((Hp.eraseA (σ := [rowR 45 b335 [Value.int .i64 z56.lo, Value.int .i64 z56.hi], ownR [] SpanE 45 v49 l48]) 0).trans ((Adv.of_ext e398).trans ((Adv.of_ext e401).trans ((Adv.of_ext e404).trans ((Adv.of_ext e410).trans (x418.trans (x421.trans (Hp.eraseA (σ := [rowR 45 b415 [Value.int .i64 z406.lo, Value.int .i64 z406.hi], ownR [] SpanE 45 v49 l48]) 0)))))))))))))))))))).cells Try.isAgg25 rfl Try.sizeOf25 rfl ?_
            refine Reg.take rfl rfl ?_
            refine s_lda rfl (hC6.adv (hA12.trans ((Adv.of_ext e23).trans (x34.trans (x37.trans ((Hp.eraseA (σ := [rowR 25 b31 [Value.int .i64 z20.traits, v25, v27, Value.int .i64 z20.need]]) 0).trans ((Adv.of_ext e42).trans ((Hp.addLitA (σ := []) SpanE 45 k45).trans (x52.trans ((Adv.of_ext e54).trans ((Adv.of_ext e60).trans ((Adv.of_ext e66).trans ((Adv.of_ext e69).trans (x338.trans ((Adv.of_ext e340).trans ((Adv.of_ext e343).trans (x394.trans ((Hp.eraseA (σ := [rowR 45 b335 [Value.int .i64 z56.lo, Value.int .i64 z56.hi], ownR [] SpanE 45 v49 l48]) 0).trans ((Adv.of_ext e398).trans ((Adv.of_ext e401).trans ((Adv.of_ext e404).trans ((Adv.of_ext e410).trans (x418.trans (x421.trans (Hp.eraseA (σ := [rowR 45 b415 [Value.int .i64 z406.lo, Value.int .i64 z406.hi], ownR [] SpanE 45 v49 l48]) 0))))))))))))))))))))))))).cells Try.isAgg25 rfl Try.sizeOf25 rfl ?_
            refine Reg.take rfl rfl ?_
            obtain ⟨z432, hz433, h425⟩ := bnd h425
            refine s_call rfl Try.call21 rfl ?_
            refine (C_ref06_Same hI422.mlt r24 (hf26.adv (x34.trans (x37.trans ((Hp.eraseA (σ := [rowR 25 b31 [Value.int .i64 z20.traits, v25, v27, Value.int .i64 z20.need]]) 0).trans ((Adv.of_ext e42).trans ((Hp.addLitA (σ := []) SpanE 45 k45).trans (x52.trans ((Adv.of_ext e54).trans ((Adv.of_ext e60).trans ((Adv.of_ext e66).trans ((Adv.of_ext e69).trans (x338.trans ((Adv.of_ext e340).trans ((Adv.of_ext e343).trans (x394.trans ((Hp.eraseA (σ := [rowR 45 b335 [Value.int .i64 z56.lo, Value.int .i64 z56.hi], ownR [] SpanE 45 v49 l48]) 0).trans ((Adv.of_ext e398).trans ((Adv.of_ext e401).trans ((Adv.of_ext e404).trans ((Adv.of_ext e410).trans (x418.trans (x421.trans (Hp.eraseA (σ := [rowR 45 b415 [Value.int .i64 z406.lo, Value.int .i64 z406.hi], ownR [] SpanE 45 v49 l48]) 0))))))))))))))))))))))) (hf28.adv (x34.trans (x37.trans ((Hp.eraseA (σ := [rowR 25 b31 [Value.int .i64 z20.traits, v25, v27, Value.int .i64 z20.need]]) 0).trans ((Adv.of_ext e42).trans ((Hp.addLitA (σ := []) SpanE 45 k45).trans (x52.trans ((Adv.of_ext e54).trans ((Adv.of_ext e60).trans ((Adv.of_ext e66).trans ((Adv.of_ext e69).trans (x338.trans ((Adv.of_ext e340).trans ((Adv.of_ext e343).trans (x394.trans ((Hp.eraseA (σ := [rowR 45 b335 [Value.int .i64 z56.lo, Value.int .i64 z56.hi], ownR [] SpanE 45 v49 l48]) 0).trans ((Adv.of_ext e398).trans ((Adv.of_ext e401).trans ((Adv.of_ext e404).trans ((Adv.of_ext e410).trans (x418.trans (x421.trans (Hp.eraseA (σ := [rowR 45 b415 [Value.int .i64 z406.lo, Value.int .i64 z406.hi], ownR [] SpanE 45 v49 l48]) 0))))))))))))))))))))))) r29 f_m_0 (f_m_1.adv hI422.adv) (f_m_2.adv hI422.adv) f_m_3 hz433).mono ?_
            rintro _ w434 ⟨rfl, e435⟩
            refine ⟨_, rfl, ?_⟩
            have hI436 := hI422.ext e435
            refine s_pkT rfl rfl rfl ?_
            refine s_as rfl rfl ?_
            refine Reg.nil ?_
            obtain rfl := Option.some.inj h425
            refine ⟨rfl, z432, ⟨hI436, (Adv.of_ext e435), rfl⟩, Sub.cons rfl (Sub.nil _)⟩
           ·replace h425 := cdF hg431 h425
            refine Reg.pass rfl rfl rfl rfl ?_
            refine Reg.pass rfl rfl rfl rfl ?_
            refine Reg.pass rfl rfl rfl rfl ?_
            refine s_pkF rfl rfl rfl ?_
            refine s_as rfl rfl ?_
            refine Reg.nil ?_
            obtain rfl := Option.some.inj h425
            refine ⟨rfl, false, ⟨hI422, (Adv.refl _ _), rfl⟩, Sub.cons rfl (Sub.nil _)⟩
          ·replace h425 := cdF hg430 h425
           refine Reg.pass rfl rfl rfl rfl ?_
           refine Reg.pass rfl rfl rfl rfl ?_
           refine Reg.pass rfl rfl rfl rfl ?_
           refine s_pkF rfl rfl rfl ?_
           refine s_mv rfl rfl ?_
           refine Reg.pass rfl rfl rfl rfl ?_
           refine Reg.pass rfl rfl rfl rfl ?_
           refine Reg.pass rfl rfl rfl rfl ?_
           refine s_pkF rfl rfl rfl ?_
           refine s_as rfl rfl ?_
           refine Reg.nil ?_
           obtain rfl := Option.some.inj h425
           refine ⟨rfl, false, ⟨hI422, (Adv.refl _ _), rfl⟩, Sub.cons rfl (Sub.nil _)⟩
         ·skip
          rintro x426 w427 ⟨hI428, hA429, rfl⟩
          refine cw_ret ?_
          obtain rfl := Option.some.inj h
          refine fin1 Try.results4 rfl ?_
          exact ⟨rfl, hI428.kp⟩
       ·skip
        refine ⟨_, [], rfl, RSub.nil, rfl, nodupB_spec rfl, ?_⟩
        simp only [relOut]
        refine s_xt rfl rfl rfl ?_
        refine Reg.nil ⟨rfl, .inr hI341.kp, rfl, ?_⟩
        intro w437 e438
        have hI439 := hI341.ext e438
        refine SeaWalk.step [6] (by kernel_rfl) (AllL.cons ?_ (AllL.nil))
        refine ⟨_, [], rfl, RSub.nil, rfl, nodupB_spec rfl, ?_⟩
        simp only [relOut]
        refine s_xt rfl rfl rfl ?_
        refine Reg.nil ⟨rfl, .inr hI439.kp, rfl, ?_⟩
        intro w440 e441
        have hI442 := hI439.ext e441
        refine SeaWalk.step [9] (by kernel_rfl) (AllL.cons ?_ (AllL.nil))
        refine ⟨_, [], rfl, RSub.nil, rfl, nodupB_spec rfl, ?_⟩
        simp only [relOut]
        have hI443 := hI38.join hI442
        refine y_st 0 hI443 rfl rfl rfl rfl Try.sizeOf45 rfl rfl (one1 rfl (one1 rfl one0)) ?_
        intro w444 hI445 x446
        have hC448 := hI445.freezeRow 0 rfl
        have hI447 := hI445.erase 0
        refine Reg.nil ⟨rfl, .inl rfl, rfl, ?_⟩
        intro w449 e450
        have hI451 := hI447.ext e450
        refine SeaWalk.step [10] (by kernel_rfl) (AllL.cons ?_ (AllL.nil))
        refine ⟨_, [], rfl, RSub.nil, rfl, nodupB_spec rfl, ?_⟩
        simp only [relOut]
        refine s_as rfl rfl ?_
        refine Reg.nil ⟨rfl, .inl rfl, rfl, ?_⟩
        intro w452 e453
        have hI454 := hI451.ext e453
        refine SeaWalk.done ?_
        refine cw_seq (cw_regF ?_)
        refine s_lda rfl (hC6.adv (hA12.trans ((Adv.of_ext e23).trans (x34.trans (x37.trans ((Hp.eraseA (σ := [rowR 25 b31 [Value.int .i64 z20.traits, v25, v27, Value.int .i64 z20.need]]) 0).trans ((Adv.of_ext e42).trans ((Hp.addLitA (σ := []) SpanE 45 k45).trans (x52.trans ((Adv.of_ext e54).trans ((Adv.of_ext e60).trans ((Adv.of_ext e66).trans ((Adv.of_ext e69).trans (x338.trans ((Adv.of_ext e340).trans ((Adv.of_ext e438).trans ((Adv.of_ext e441).trans (x446.trans ((Hp.eraseA (σ := [rowR 45 b335 [Value.int .i64 z56.lo, Value.int .i64 z56.hi], ownR [] SpanE 45 v49 l48]) 0).trans ((Adv.of_ext e450).trans (Adv.of_ext e453))))))))))))))))))))).cells Try.isAgg25 rfl Try.sizeOf25 rfl ?_
        refine s_mv rfl rfl ?_
        obtain ⟨⟨z455, z456⟩, hz457, h⟩ := bnd h
        refine s_call rfl Try.call23 rfl ?_
        refine (C_ref06_Between hI454.mlt f_m_0 (f_m_1.adv hI454.adv) (f_m_2.adv hI454.adv) f_m_3 (f_x_0.adv hI454.adv) hz457).mono ?_
        rintro _ w458 ⟨rfl, r460, r461, r462, e459⟩
        refine ⟨_, rfl, ?_⟩
        have hI463 := hI454.ext e459
        refine s_mv rfl rfl ?_
        refine s_xt rfl rfl rfl ?_
        refine s_xt rfl rfl rfl ?_
        refine y_al hI463 Try.zeroValue45 rfl rfl ?_
        intro b464 w465 hI466 x467
        refine y_st 0 hI466 rfl rfl rfl rfl Try.sizeOf45 rfl rfl (one1 rfl (one1 rfl one0)) ?_
        intro w468 hI469 x470
        have hC472 := hI469.freezeRow 0 rfl
        have hI471 := hI469.erase 0
        refine s_as rfl rfl ?_
        refine Reg.nil ?_
        obtain ⟨j473, h474, h⟩ := bnd h
        refine cw_sub (L := [(2, _), (5, _), (6, _), (7, _), (8, _), (9, _)]) (Sub.cons rfl (Sub.cons rfl (Sub.cons rfl (Sub.cons rfl (Sub.cons rfl (Sub.cons rfl (Sub.nil _))))))) ?_
        refine cw_seqD 6 (ι := Bool) (fun x475 => [(4, Value.bool x475)]) (fun x475 => fun w476 => Hp w [] M [ownR [] SpanE 45 v49 l48] w476 ∧ Adv (mm [ownR [] SpanE 45 v49 l48] M) (mm [ownR [] SpanE 45 v49 l48] M) w468 w476 ∧ x475 = j473) ?_ ?_
        ·skip
         refine cw_regF ?_
         refine s_lda rfl (hC448.adv ((Adv.of_ext e450).trans ((Adv.of_ext e453).trans ((Adv.of_ext e459).trans (x467.trans (x470.trans (Hp.eraseA (σ := [rowR 45 b464 [Value.int .i64 z455.lo, Value.int .i64 z455.hi], ownR [] SpanE 45 v49 l48]) 0))))))).cells Try.isAgg45 rfl Try.sizeOf45 rfl ?_
         refine s_lda rfl hC472.cells Try.isAgg45 rfl Try.sizeOf45 rfl ?_
         refine s_eqS (Span_eq (Span.mk z56.lo z56.hi) (Span.mk z455.lo z455.hi)) Try.eqGuardType45 rfl rfl rfl ?_
         refine s_mv rfl rfl ?_
         refine Reg.gsplit (t := 36) rfl (fun hg479 => ?_) (fun hg479 => ?_)
         ·replace h474 := cdT hg479 h474
          refine Reg.take rfl rfl ?_
          refine s_mv rfl rfl ?_
          refine Reg.take rfl rfl ?_
          refine s_mv rfl rfl ?_
          refine Reg.take rfl rfl ?_
          refine s_eql rfl rfl rfl ?_
          refine s_pkT rfl rfl rfl ?_
          refine s_mv rfl rfl ?_
          refine Reg.gsplit (t := 41) rfl (fun hg480 => ?_) (fun hg480 => ?_)
          ·replace h474 := cdT hg480 h474
           refine Reg.take rfl rfl ?_
           refine s_lda rfl (hC39.adv ((Adv.of_ext e42).trans ((Hp.addLitA (σ := []) SpanE 45 k45).trans (x52.trans ((Adv.of_ext e54).trans ((Adv.of_ext e60).trans ((Adv.of_ext e66).trans ((Adv.of_ext e69).trans (x338.trans ((Adv.of_ext e340).trans ((Adv.of_ext e438).trans ((Adv.of_ext e441).trans (x446.trans ((Hp.eraseA (σ := [rowR 45 b335 [Value.int .i64 z56.lo, Value.int .i64 z56.hi], ownR [] SpanE 45 v49 l48]) 0).trans ((Adv.of_ext e450).trans ((Adv.of_ext e453).trans ((Adv.of_ext e459).trans (x467.trans (x470.trans (Hp.eraseA (σ := [rowR 45 b464 [Value.int .i64 z455.lo, Value.int .i64 z455.hi], ownR [] SpanE 45 v49 l48]) 0)))))))))))))))))))).cells Try.isAgg25 rfl Try.sizeOf25 rfl ?_
           refine Reg.take rfl rfl ?_
           refine s_lda rfl (hC6.adv (hA12.trans ((Adv.of_ext e23).trans (x34.trans (x37.trans ((Hp.eraseA (σ := [rowR 25 b31 [Value.int .i64 z20.traits, v25, v27, Value.int .i64 z20.need]]) 0).trans ((Adv.of_ext e42).trans ((Hp.addLitA (σ := []) SpanE 45 k45).trans (x52.trans ((Adv.of_ext e54).trans ((Adv.of_ext e60).trans ((Adv.of_ext e66).trans ((Adv.of_ext e69).trans (x338.trans ((Adv.of_ext e340).trans ((Adv.of_ext e438).trans ((Adv.of_ext e441).trans (x446.trans ((Hp.eraseA (σ := [rowR 45 b335 [Value.int .i64 z56.lo, Value.int .i64 z56.hi], ownR [] SpanE 45 v49 l48]) 0).trans ((Adv.of_ext e450).trans ((Adv.of_ext e453).trans ((Adv.of_ext e459).trans (x467.trans (x470.trans (Hp.eraseA (σ := [rowR 45 b464 [Value.int .i64 z455.lo, Value.int .i64 z455.hi], ownR [] SpanE 45 v49 l48]) 0))))))))))))))))))))))))).cells Try.isAgg25 rfl Try.sizeOf25 rfl ?_
           refine Reg.take rfl rfl ?_
           obtain ⟨z481, hz482, h474⟩ := bnd h474
           refine s_call rfl Try.call21 rfl ?_
           refine (C_ref06_Same hI471.mlt r24 (hf26.adv (x34.trans (x37.trans ((Hp.eraseA (σ := [rowR 25 b31 [Value.int .i64 z20.traits, v25, v27, Value.int .i64 z20.need]]) 0).trans ((Adv.of_ext e42).trans ((Hp.addLitA (σ := []) SpanE 45 k45).trans (x52.trans ((Adv.of_ext e54).trans ((Adv.of_ext e60).trans ((Adv.of_ext e66).trans ((Adv.of_ext e69).trans (x338.trans ((Adv.of_ext e340).trans ((Adv.of_ext e438).trans ((Adv.of_ext e441).trans (x446.trans ((Hp.eraseA (σ := [rowR 45 b335 [Value.int .i64 z56.lo, Value.int .i64 z56.hi], ownR [] SpanE 45 v49 l48]) 0).trans ((Adv.of_ext e450).trans ((Adv.of_ext e453).trans ((Adv.of_ext e459).trans (x467.trans (x470.trans (Hp.eraseA (σ := [rowR 45 b464 [Value.int .i64 z455.lo, Value.int .i64 z455.hi], ownR [] SpanE 45 v49 l48]) 0))))))))))))))))))))))) (hf28.adv (x34.trans (x37.trans ((Hp.eraseA (σ := [rowR 25 b31 [Value.int .i64 z20.traits, v25, v27, Value.int .i64 z20.need]]) 0).trans ((Adv.of_ext e42).trans ((Hp.addLitA (σ := []) SpanE 45 k45).trans (x52.trans ((Adv.of_ext e54).trans ((Adv.of_ext e60).trans ((Adv.of_ext e66).trans ((Adv.of_ext e69).trans (x338.trans ((Adv.of_ext e340).trans ((Adv.of_ext e438).trans ((Adv.of_ext e441).trans (x446.trans ((Hp.eraseA (σ := [rowR 45 b335 [Value.int .i64 z56.lo, Value.int .i64 z56.hi], ownR [] SpanE 45 v49 l48]) 0).trans ((Adv.of_ext e450).trans ((Adv.of_ext e453).trans ((Adv.of_ext e459).trans (x467.trans (x470.trans (Hp.eraseA (σ := [rowR 45 b464 [Value.int .i64 z455.lo, Value.int .i64 z455.hi], ownR [] SpanE 45 v49 l48]) 0))))))))))))))))))))))) r29 f_m_0 (f_m_1.adv hI471.adv) (f_m_2.adv hI471.adv) f_m_3 hz482).mono ?_
           rintro _ w483 ⟨rfl, e484⟩
           refine ⟨_, rfl, ?_⟩
           have hI485 := hI471.ext e484
           refine s_pkT rfl rfl rfl ?_
           refine s_as rfl rfl ?_
           refine Reg.nil ?_
           obtain rfl := Option.some.inj h474
           refine ⟨rfl, z481, ⟨hI485, (Adv.of_ext e484), rfl⟩, Sub.cons rfl (Sub.nil _)⟩
          ·replace h474 := cdF hg480 h474
           refine Reg.pass rfl rfl rfl rfl ?_
           refine Reg.pass rfl rfl rfl rfl ?_
           refine Reg.pass rfl rfl rfl rfl ?_
           refine s_pkF rfl rfl rfl ?_
           refine s_as rfl rfl ?_
           refine Reg.nil ?_
           obtain rfl := Option.some.inj h474
           refine ⟨rfl, false, ⟨hI471, (Adv.refl _ _), rfl⟩, Sub.cons rfl (Sub.nil _)⟩
         ·replace h474 := cdF hg479 h474
          refine Reg.pass rfl rfl rfl rfl ?_
          refine Reg.pass rfl rfl rfl rfl ?_
          refine Reg.pass rfl rfl rfl rfl ?_
          refine s_pkF rfl rfl rfl ?_
          refine s_mv rfl rfl ?_
          refine Reg.pass rfl rfl rfl rfl ?_
          refine Reg.pass rfl rfl rfl rfl ?_
          refine Reg.pass rfl rfl rfl rfl ?_
          refine s_pkF rfl rfl rfl ?_
          refine s_as rfl rfl ?_
          refine Reg.nil ?_
          obtain rfl := Option.some.inj h474
          refine ⟨rfl, false, ⟨hI471, (Adv.refl _ _), rfl⟩, Sub.cons rfl (Sub.nil _)⟩
        ·skip
         rintro x475 w476 ⟨hI477, hA478, rfl⟩
         refine cw_ret ?_
         obtain rfl := Option.some.inj h
         refine fin1 Try.results4 rfl ?_
         exact ⟨rfl, hI477.kp⟩
     ·skip
      refine ⟨_, [], rfl, RSub.nil, rfl, nodupB_spec rfl, ?_⟩
      simp only [relOut]
      refine y_al hI67 Try.zeroValue45 rfl rfl ?_
      intro b486 w487 hI488 x489
      refine Reg.nil ⟨rfl, .inr hI488.kp, rfl, ?_⟩
      intro w490 e491
      have hI492 := hI488.ext e491
      refine SeaWalk.step [5] (by kernel_rfl) (AllL.cons ?_ (AllL.nil))
      refine ⟨_, [], rfl, RSub.nil, rfl, nodupB_spec rfl, ?_⟩
      simp only [relOut]
      refine s_mv rfl rfl ?_
      refine Reg.nil ⟨rfl, .inr hI492.kp, rfl, ?_⟩
      intro w493 e494
      have hI495 := hI492.ext e494
      refine SeaWalk.step [6, 7] (by kernel_rfl) (AllL.cons ?_ (AllL.cons ?_ (AllL.nil)))
      ·skip
       refine ⟨_, [], rfl, RSub.nil, rfl, nodupB_spec rfl, ?_⟩
       simp only [relOut]
       refine s_xt rfl rfl rfl ?_
       refine Reg.nil ⟨rfl, .inr hI495.kp, rfl, ?_⟩
       intro w496 e497
       have hI498 := hI495.ext e497
       refine SeaWalk.step [7, 9] (by kernel_rfl) (AllL.cons ?_ (AllL.cons ?_ (AllL.nil)))
       ·skip
        refine ⟨_, [], rfl, RSub.nil, rfl, nodupB_spec rfl, ?_⟩
        simp only [relOut]
        refine s_xt rfl rfl rfl ?_
        refine Reg.nil ⟨rfl, .inr hI498.kp, rfl, ?_⟩
        intro w499 e500
        have hI501 := hI498.ext e500
        refine SeaWalk.step [9] (by kernel_rfl) (AllL.cons ?_ (AllL.nil))
        refine ⟨_, [], rfl, RSub.nil, rfl, nodupB_spec rfl, ?_⟩
        simp only [relOut]
        have hI502 := hI38.join hI501
        refine y_st 0 hI502 rfl rfl rfl rfl Try.sizeOf45 rfl rfl (one1 rfl (one1 rfl one0)) ?_
        intro w503 hI504 x505
        have hC507 := hI504.freezeRow 0 rfl
        have hI506 := hI504.erase 0
        refine Reg.nil ⟨rfl, .inl rfl, rfl, ?_⟩
        intro w508 e509
        have hI510 := hI506.ext e509
        refine SeaWalk.step [10] (by kernel_rfl) (AllL.cons ?_ (AllL.nil))
        refine ⟨_, [], rfl, RSub.nil, rfl, nodupB_spec rfl, ?_⟩
        simp only [relOut]
        refine s_as rfl rfl ?_
        refine Reg.nil ⟨rfl, .inl rfl, rfl, ?_⟩
        intro w511 e512
        have hI513 := hI510.ext e512
        refine SeaWalk.done ?_
        refine cw_seq (cw_regF ?_)
        refine s_lda rfl (hC6.adv (hA12.trans ((Adv.of_ext e23).trans (x34.trans (x37.trans ((Hp.eraseA (σ := [rowR 25 b31 [Value.int .i64 z20.traits, v25, v27, Value.int .i64 z20.need]]) 0).trans ((Adv.of_ext e42).trans ((Hp.addLitA (σ := []) SpanE 45 k45).trans (x52.trans ((Adv.of_ext e54).trans ((Adv.of_ext e60).trans ((Adv.of_ext e66).trans (x489.trans ((Adv.of_ext e491).trans ((Adv.of_ext e494).trans ((Adv.of_ext e497).trans ((Adv.of_ext e500).trans (x505.trans ((Hp.eraseA (σ := [rowR 45 b486 [Value.int .i64 z56.lo, Value.int .i64 z56.hi], ownR [] SpanE 45 v49 l48]) 0).trans ((Adv.of_ext e509).trans (Adv.of_ext e512))))))))))))))))))))).cells Try.isAgg25 rfl Try.sizeOf25 rfl ?_
        refine s_mv rfl rfl ?_
        obtain ⟨⟨z514, z515⟩, hz516, h⟩ := bnd h
        refine s_call rfl Try.call23 rfl ?_
        refine (C_ref06_Between hI513.mlt f_m_0 (f_m_1.adv hI513.adv) (f_m_2.adv hI513.adv) f_m_3 (f_x_0.adv hI513.adv) hz516).mono ?_
        rintro _ w517 ⟨rfl, r519, r520, r521, e518⟩
        refine ⟨_, rfl, ?_⟩
        have hI522 := hI513.ext e518
        refine s_mv rfl rfl ?_
        refine s_xt rfl rfl rfl ?_
        refine s_xt rfl rfl rfl ?_
        refine y_al hI522 Try.zeroValue45 rfl rfl ?_
        intro b523 w524 hI525 x526
        refine y_st 0 hI525 rfl rfl rfl rfl Try.sizeOf45 rfl rfl (one1 rfl (one1 rfl one0)) ?_
        intro w527 hI528 x529
        have hC531 := hI528.freezeRow 0 rfl
        have hI530 := hI528.erase 0
        refine s_as rfl rfl ?_
        refine Reg.nil ?_
        obtain ⟨j532, h533, h⟩ := bnd h
        refine cw_sub (L := [(2, _), (5, _), (6, _), (7, _), (8, _), (9, _)]) (Sub.cons rfl (Sub.cons rfl (Sub.cons rfl (Sub.cons rfl (Sub.cons rfl (Sub.cons rfl (Sub.nil _))))))) ?_
        refine cw_seqD 6 (ι := Bool) (fun x534 => [(4, Value.bool x534)]) (fun x534 => fun w535 => Hp w [] M [ownR [] SpanE 45 v49 l48] w535 ∧ Adv (mm [ownR [] SpanE 45 v49 l48] M) (mm [ownR [] SpanE 45 v49 l48] M) w527 w535 ∧ x534 = j532) ?_ ?_
        ·skip
         refine cw_regF ?_
         refine s_lda rfl (hC507.adv ((Adv.of_ext e509).trans ((Adv.of_ext e512).trans ((Adv.of_ext e518).trans (x526.trans (x529.trans (Hp.eraseA (σ := [rowR 45 b523 [Value.int .i64 z514.lo, Value.int .i64 z514.hi], ownR [] SpanE 45 v49 l48]) 0))))))).cells Try.isAgg45 rfl Try.sizeOf45 rfl ?_
         refine s_lda rfl hC531.cells Try.isAgg45 rfl Try.sizeOf45 rfl ?_
         refine s_eqS (Span_eq (Span.mk z56.lo z56.hi) (Span.mk z514.lo z514.hi)) Try.eqGuardType45 rfl rfl rfl ?_
         refine s_mv rfl rfl ?_
         refine Reg.gsplit (t := 36) rfl (fun hg538 => ?_) (fun hg538 => ?_)
         ·replace h533 := cdT hg538 h533
          refine Reg.take rfl rfl ?_
          refine s_mv rfl rfl ?_
          refine Reg.take rfl rfl ?_
          refine s_mv rfl rfl ?_
          refine Reg.take rfl rfl ?_
          refine s_eql rfl rfl rfl ?_
          refine s_pkT rfl rfl rfl ?_
          refine s_mv rfl rfl ?_
          refine Reg.gsplit (t := 41) rfl (fun hg539 => ?_) (fun hg539 => ?_)
          ·replace h533 := cdT hg539 h533
           refine Reg.take rfl rfl ?_
           refine s_lda rfl (hC39.adv ((Adv.of_ext e42).trans ((Hp.addLitA (σ := []) SpanE 45 k45).trans (x52.trans ((Adv.of_ext e54).trans ((Adv.of_ext e60).trans ((Adv.of_ext e66).trans (x489.trans ((Adv.of_ext e491).trans ((Adv.of_ext e494).trans ((Adv.of_ext e497).trans ((Adv.of_ext e500).trans (x505.trans ((Hp.eraseA (σ := [rowR 45 b486 [Value.int .i64 z56.lo, Value.int .i64 z56.hi], ownR [] SpanE 45 v49 l48]) 0).trans ((Adv.of_ext e509).trans ((Adv.of_ext e512).trans ((Adv.of_ext e518).trans (x526.trans (x529.trans (Hp.eraseA (σ := [rowR 45 b523 [Value.int .i64 z514.lo, Value.int .i64 z514.hi], ownR [] SpanE 45 v49 l48]) 0)))))))))))))))))))).cells Try.isAgg25 rfl Try.sizeOf25 rfl ?_
           refine Reg.take rfl rfl ?_
           refine s_lda rfl (hC6.adv (hA12.trans ((Adv.of_ext e23).trans (x34.trans (x37.trans ((Hp.eraseA (σ := [rowR 25 b31 [Value.int .i64 z20.traits, v25, v27, Value.int .i64 z20.need]]) 0).trans ((Adv.of_ext e42).trans ((Hp.addLitA (σ := []) SpanE 45 k45).trans (x52.trans ((Adv.of_ext e54).trans ((Adv.of_ext e60).trans ((Adv.of_ext e66).trans (x489.trans ((Adv.of_ext e491).trans ((Adv.of_ext e494).trans ((Adv.of_ext e497).trans ((Adv.of_ext e500).trans (x505.trans ((Hp.eraseA (σ := [rowR 45 b486 [Value.int .i64 z56.lo, Value.int .i64 z56.hi], ownR [] SpanE 45 v49 l48]) 0).trans ((Adv.of_ext e509).trans ((Adv.of_ext e512).trans ((Adv.of_ext e518).trans (x526.trans (x529.trans (Hp.eraseA (σ := [rowR 45 b523 [Value.int .i64 z514.lo, Value.int .i64 z514.hi], ownR [] SpanE 45 v49 l48]) 0))))))))))))))))))))))))).cells Try.isAgg25 rfl Try.sizeOf25 rfl ?_
           refine Reg.take rfl rfl ?_
           obtain ⟨z540, hz541, h533⟩ := bnd h533
           refine s_call rfl Try.call21 rfl ?_
           refine (C_ref06_Same hI530.mlt r24 (hf26.adv (x34.trans (x37.trans ((Hp.eraseA (σ := [rowR 25 b31 [Value.int .i64 z20.traits, v25, v27, Value.int .i64 z20.need]]) 0).trans ((Adv.of_ext e42).trans ((Hp.addLitA (σ := []) SpanE 45 k45).trans (x52.trans ((Adv.of_ext e54).trans ((Adv.of_ext e60).trans ((Adv.of_ext e66).trans (x489.trans ((Adv.of_ext e491).trans ((Adv.of_ext e494).trans ((Adv.of_ext e497).trans ((Adv.of_ext e500).trans (x505.trans ((Hp.eraseA (σ := [rowR 45 b486 [Value.int .i64 z56.lo, Value.int .i64 z56.hi], ownR [] SpanE 45 v49 l48]) 0).trans ((Adv.of_ext e509).trans ((Adv.of_ext e512).trans ((Adv.of_ext e518).trans (x526.trans (x529.trans (Hp.eraseA (σ := [rowR 45 b523 [Value.int .i64 z514.lo, Value.int .i64 z514.hi], ownR [] SpanE 45 v49 l48]) 0))))))))))))))))))))))) (hf28.adv (x34.trans (x37.trans ((Hp.eraseA (σ := [rowR 25 b31 [Value.int .i64 z20.traits, v25, v27, Value.int .i64 z20.need]]) 0).trans ((Adv.of_ext e42).trans ((Hp.addLitA (σ := []) SpanE 45 k45).trans (x52.trans ((Adv.of_ext e54).trans ((Adv.of_ext e60).trans ((Adv.of_ext e66).trans (x489.trans ((Adv.of_ext e491).trans ((Adv.of_ext e494).trans ((Adv.of_ext e497).trans ((Adv.of_ext e500).trans (x505.trans ((Hp.eraseA (σ := [rowR 45 b486 [Value.int .i64 z56.lo, Value.int .i64 z56.hi], ownR [] SpanE 45 v49 l48]) 0).trans ((Adv.of_ext e509).trans ((Adv.of_ext e512).trans ((Adv.of_ext e518).trans (x526.trans (x529.trans (Hp.eraseA (σ := [rowR 45 b523 [Value.int .i64 z514.lo, Value.int .i64 z514.hi], ownR [] SpanE 45 v49 l48]) 0))))))))))))))))))))))) r29 f_m_0 (f_m_1.adv hI530.adv) (f_m_2.adv hI530.adv) f_m_3 hz541).mono ?_
           rintro _ w542 ⟨rfl, e543⟩
           refine ⟨_, rfl, ?_⟩
           have hI544 := hI530.ext e543
           refine s_pkT rfl rfl rfl ?_
           refine s_as rfl rfl ?_
           refine Reg.nil ?_
           obtain rfl := Option.some.inj h533
           refine ⟨rfl, z540, ⟨hI544, (Adv.of_ext e543), rfl⟩, Sub.cons rfl (Sub.nil _)⟩
          ·replace h533 := cdF hg539 h533
           refine Reg.pass rfl rfl rfl rfl ?_
           refine Reg.pass rfl rfl rfl rfl ?_
           refine Reg.pass rfl rfl rfl rfl ?_
           refine s_pkF rfl rfl rfl ?_
           refine s_as rfl rfl ?_
           refine Reg.nil ?_
           obtain rfl := Option.some.inj h533
           refine ⟨rfl, false, ⟨hI530, (Adv.refl _ _), rfl⟩, Sub.cons rfl (Sub.nil _)⟩
         ·replace h533 := cdF hg538 h533
          refine Reg.pass rfl rfl rfl rfl ?_
          refine Reg.pass rfl rfl rfl rfl ?_
          refine Reg.pass rfl rfl rfl rfl ?_
          refine s_pkF rfl rfl rfl ?_
          refine s_mv rfl rfl ?_
          refine Reg.pass rfl rfl rfl rfl ?_
          refine Reg.pass rfl rfl rfl rfl ?_
          refine Reg.pass rfl rfl rfl rfl ?_
          refine s_pkF rfl rfl rfl ?_
          refine s_as rfl rfl ?_
          refine Reg.nil ?_
          obtain rfl := Option.some.inj h533
          refine ⟨rfl, false, ⟨hI530, (Adv.refl _ _), rfl⟩, Sub.cons rfl (Sub.nil _)⟩
        ·skip
         rintro x534 w535 ⟨hI536, hA537, rfl⟩
         refine cw_ret ?_
         obtain rfl := Option.some.inj h
         refine fin1 Try.results4 rfl ?_
         exact ⟨rfl, hI536.kp⟩
       ·skip
        refine ⟨_, [], rfl, RSub.nil, rfl, nodupB_spec rfl, ?_⟩
        simp only [relOut]
        have hI545 := hI38.join hI498
        refine y_st 0 hI545 rfl rfl rfl rfl Try.sizeOf45 rfl rfl (one1 rfl (one1 rfl one0)) ?_
        intro w546 hI547 x548
        have hC550 := hI547.freezeRow 0 rfl
        have hI549 := hI547.erase 0
        refine Reg.nil ⟨rfl, .inl rfl, rfl, ?_⟩
        intro w551 e552
        have hI553 := hI549.ext e552
        refine SeaWalk.step [7] (by kernel_rfl) (AllL.cons ?_ (AllL.nil))
        refine ⟨_, [], rfl, RSub.nil, rfl, nodupB_spec rfl, ?_⟩
        simp only [relOut]
        refine s_xt rfl rfl rfl ?_
        refine Reg.nil ⟨rfl, .inl rfl, rfl, ?_⟩
        intro w554 e555
        have hI556 := hI553.ext e555
        refine SeaWalk.step [10] (by kernel_rfl) (AllL.cons ?_ (AllL.nil))
        refine ⟨_, [], rfl, RSub.nil, rfl, nodupB_spec rfl, ?_⟩
        simp only [relOut]
        refine s_as rfl rfl ?_
        refine Reg.nil ⟨rfl, .inl rfl, rfl, ?_⟩
        intro w557 e558
        have hI559 := hI556.ext e558
        refine SeaWalk.done ?_
        refine cw_seq (cw_regF ?_)
        refine s_lda rfl (hC6.adv (hA12.trans ((Adv.of_ext e23).trans (x34.trans (x37.trans ((Hp.eraseA (σ := [rowR 25 b31 [Value.int .i64 z20.traits, v25, v27, Value.int .i64 z20.need]]) 0).trans ((Adv.of_ext e42).trans ((Hp.addLitA (σ := []) SpanE 45 k45).trans (x52.trans ((Adv.of_ext e54).trans ((Adv.of_ext e60).trans ((Adv.of_ext e66).trans (x489.trans ((Adv.of_ext e491).trans ((Adv.of_ext e494).trans ((Adv.of_ext e497).trans (x548.trans ((Hp.eraseA (σ := [rowR 45 b486 [Value.int .i64 z56.lo, Value.int .i64 z56.hi], ownR [] SpanE 45 v49 l48]) 0).trans ((Adv.of_ext e552).trans ((Adv.of_ext e555).trans (Adv.of_ext e558))))))))))))))))))))).cells Try.isAgg25 rfl Try.sizeOf25 rfl ?_
        refine s_mv rfl rfl ?_
        obtain ⟨⟨z560, z561⟩, hz562, h⟩ := bnd h
        refine s_call rfl Try.call23 rfl ?_
        refine (C_ref06_Between hI559.mlt f_m_0 (f_m_1.adv hI559.adv) (f_m_2.adv hI559.adv) f_m_3 (f_x_0.adv hI559.adv) hz562).mono ?_
        rintro _ w563 ⟨rfl, r565, r566, r567, e564⟩
        refine ⟨_, rfl, ?_⟩
        have hI568 := hI559.ext e564
        refine s_mv rfl rfl ?_
        refine s_xt rfl rfl rfl ?_
        refine s_xt rfl rfl rfl ?_
        refine y_al hI568 Try.zeroValue45 rfl rfl ?_
        intro b569 w570 hI571 x572
        refine y_st 0 hI571 rfl rfl rfl rfl Try.sizeOf45 rfl rfl (one1 rfl (one1 rfl one0)) ?_
        intro w573 hI574 x575
        have hC577 := hI574.freezeRow 0 rfl
        have hI576 := hI574.erase 0
        refine s_as rfl rfl ?_
        refine Reg.nil ?_
        obtain ⟨j578, h579, h⟩ := bnd h
        refine cw_sub (L := [(2, _), (5, _), (6, _), (7, _), (8, _), (9, _)]) (Sub.cons rfl (Sub.cons rfl (Sub.cons rfl (Sub.cons rfl (Sub.cons rfl (Sub.cons rfl (Sub.nil _))))))) ?_
        refine cw_seqD 6 (ι := Bool) (fun x580 => [(4, Value.bool x580)]) (fun x580 => fun w581 => Hp w [] M [ownR [] SpanE 45 v49 l48] w581 ∧ Adv (mm [ownR [] SpanE 45 v49 l48] M) (mm [ownR [] SpanE 45 v49 l48] M) w573 w581 ∧ x580 = j578) ?_ ?_
        ·skip
         refine cw_regF ?_
         refine s_lda rfl (hC550.adv ((Adv.of_ext e552).trans ((Adv.of_ext e555).trans ((Adv.of_ext e558).trans ((Adv.of_ext e564).trans (x572.trans (x575.trans (Hp.eraseA (σ := [rowR 45 b569 [Value.int .i64 z560.lo, Value.int .i64 z560.hi], ownR [] SpanE 45 v49 l48]) 0)))))))).cells Try.isAgg45 rfl Try.sizeOf45 rfl ?_
         refine s_lda rfl hC577.cells Try.isAgg45 rfl Try.sizeOf45 rfl ?_
         refine s_eqS (Span_eq (Span.mk z56.lo z56.hi) (Span.mk z560.lo z560.hi)) Try.eqGuardType45 rfl rfl rfl ?_
         refine s_mv rfl rfl ?_
         refine Reg.gsplit (t := 36) rfl (fun hg584 => ?_) (fun hg584 => ?_)
         ·replace h579 := cdT hg584 h579
          refine Reg.take rfl rfl ?_
          refine s_mv rfl rfl ?_
          refine Reg.take rfl rfl ?_
          refine s_mv rfl rfl ?_
          refine Reg.take rfl rfl ?_
          refine s_eql rfl rfl rfl ?_
          refine s_pkT rfl rfl rfl ?_
          refine s_mv rfl rfl ?_
          refine Reg.gsplit (t := 41) rfl (fun hg585 => ?_) (fun hg585 => ?_)
          ·replace h579 := cdT hg585 h579
           refine Reg.take rfl rfl ?_
           refine s_lda rfl (hC39.adv ((Adv.of_ext e42).trans ((Hp.addLitA (σ := []) SpanE 45 k45).trans (x52.trans ((Adv.of_ext e54).trans ((Adv.of_ext e60).trans ((Adv.of_ext e66).trans (x489.trans ((Adv.of_ext e491).trans ((Adv.of_ext e494).trans ((Adv.of_ext e497).trans (x548.trans ((Hp.eraseA (σ := [rowR 45 b486 [Value.int .i64 z56.lo, Value.int .i64 z56.hi], ownR [] SpanE 45 v49 l48]) 0).trans ((Adv.of_ext e552).trans ((Adv.of_ext e555).trans ((Adv.of_ext e558).trans ((Adv.of_ext e564).trans (x572.trans (x575.trans (Hp.eraseA (σ := [rowR 45 b569 [Value.int .i64 z560.lo, Value.int .i64 z560.hi], ownR [] SpanE 45 v49 l48]) 0)))))))))))))))))))).cells Try.isAgg25 rfl Try.sizeOf25 rfl ?_
           refine Reg.take rfl rfl ?_
           refine s_lda rfl (hC6.adv (hA12.trans ((Adv.of_ext e23).trans (x34.trans (x37.trans ((Hp.eraseA (σ := [rowR 25 b31 [Value.int .i64 z20.traits, v25, v27, Value.int .i64 z20.need]]) 0).trans ((Adv.of_ext e42).trans ((Hp.addLitA (σ := []) SpanE 45 k45).trans (x52.trans ((Adv.of_ext e54).trans ((Adv.of_ext e60).trans ((Adv.of_ext e66).trans (x489.trans ((Adv.of_ext e491).trans ((Adv.of_ext e494).trans ((Adv.of_ext e497).trans (x548.trans ((Hp.eraseA (σ := [rowR 45 b486 [Value.int .i64 z56.lo, Value.int .i64 z56.hi], ownR [] SpanE 45 v49 l48]) 0).trans ((Adv.of_ext e552).trans ((Adv.of_ext e555).trans ((Adv.of_ext e558).trans ((Adv.of_ext e564).trans (x572.trans (x575.trans (Hp.eraseA (σ := [rowR 45 b569 [Value.int .i64 z560.lo, Value.int .i64 z560.hi], ownR [] SpanE 45 v49 l48]) 0))))))))))))))))))))))))).cells Try.isAgg25 rfl Try.sizeOf25 rfl ?_
           refine Reg.take rfl rfl ?_
           obtain ⟨z586, hz587, h579⟩ := bnd h579
           refine s_call rfl Try.call21 rfl ?_
           refine (C_ref06_Same hI576.mlt r24 (hf26.adv (x34.trans (x37.trans ((Hp.eraseA (σ := [rowR 25 b31 [Value.int .i64 z20.traits, v25, v27, Value.int .i64 z20.need]]) 0).trans ((Adv.of_ext e42).trans ((Hp.addLitA (σ := []) SpanE 45 k45).trans (x52.trans ((Adv.of_ext e54).trans ((Adv.of_ext e60).trans ((Adv.of_ext e66).trans (x489.trans ((Adv.of_ext e491).trans ((Adv.of_ext e494).trans ((Adv.of_ext e497).trans (x548.trans ((Hp.eraseA (σ := [rowR 45 b486 [Value.int .i64 z56.lo, Value.int .i64 z56.hi], ownR [] SpanE 45 v49 l48]) 0).trans ((Adv.of_ext e552).trans ((Adv.of_ext e555).trans ((Adv.of_ext e558).trans ((Adv.of_ext e564).trans (x572.trans (x575.trans (Hp.eraseA (σ := [rowR 45 b569 [Value.int .i64 z560.lo, Value.int .i64 z560.hi], ownR [] SpanE 45 v49 l48]) 0))))))))))))))))))))))) (hf28.adv (x34.trans (x37.trans ((Hp.eraseA (σ := [rowR 25 b31 [Value.int .i64 z20.traits, v25, v27, Value.int .i64 z20.need]]) 0).trans ((Adv.of_ext e42).trans ((Hp.addLitA (σ := []) SpanE 45 k45).trans (x52.trans ((Adv.of_ext e54).trans ((Adv.of_ext e60).trans ((Adv.of_ext e66).trans (x489.trans ((Adv.of_ext e491).trans ((Adv.of_ext e494).trans ((Adv.of_ext e497).trans (x548.trans ((Hp.eraseA (σ := [rowR 45 b486 [Value.int .i64 z56.lo, Value.int .i64 z56.hi], ownR [] SpanE 45 v49 l48]) 0).trans ((Adv.of_ext e552).trans ((Adv.of_ext e555).trans ((Adv.of_ext e558).trans ((Adv.of_ext e564).trans (x572.trans (x575.trans (Hp.eraseA (σ := [rowR 45 b569 [Value.int .i64 z560.lo, Value.int .i64 z560.hi], ownR [] SpanE 45 v49 l48]) 0))))))))))))))))))))))) r29 f_m_0 (f_m_1.adv hI576.adv) (f_m_2.adv hI576.adv) f_m_3 hz587).mono ?_
           rintro _ w588 ⟨rfl, e589⟩
           refine ⟨_, rfl, ?_⟩
           have hI590 := hI576.ext e589
           refine s_pkT rfl rfl rfl ?_
           refine s_as rfl rfl ?_
           refine Reg.nil ?_
           obtain rfl := Option.some.inj h579
           refine ⟨rfl, z586, ⟨hI590, (Adv.of_ext e589), rfl⟩, Sub.cons rfl (Sub.nil _)⟩
          ·replace h579 := cdF hg585 h579
           refine Reg.pass rfl rfl rfl rfl ?_
           refine Reg.pass rfl rfl rfl rfl ?_
           refine Reg.pass rfl rfl rfl rfl ?_
           refine s_pkF rfl rfl rfl ?_
           refine s_as rfl rfl ?_
           refine Reg.nil ?_
           obtain rfl := Option.some.inj h579
           refine ⟨rfl, false, ⟨hI576, (Adv.refl _ _), rfl⟩, Sub.cons rfl (Sub.nil _)⟩
         ·replace h579 := cdF hg584 h579
          refine Reg.pass rfl rfl rfl rfl ?_
          refine Reg.pass rfl rfl rfl rfl ?_
          refine Reg.pass rfl rfl rfl rfl ?_
          refine s_pkF rfl rfl rfl ?_
          refine s_mv rfl rfl ?_
          refine Reg.pass rfl rfl rfl rfl ?_
          refine Reg.pass rfl rfl rfl rfl ?_
          refine Reg.pass rfl rfl rfl rfl ?_
          refine s_pkF rfl rfl rfl ?_
          refine s_as rfl rfl ?_
          refine Reg.nil ?_
          obtain rfl := Option.some.inj h579
          refine ⟨rfl, false, ⟨hI576, (Adv.refl _ _), rfl⟩, Sub.cons rfl (Sub.nil _)⟩
        ·skip
         rintro x580 w581 ⟨hI582, hA583, rfl⟩
         refine cw_ret ?_
         obtain rfl := Option.some.inj h
         refine fin1 Try.results4 rfl ?_
         exact ⟨rfl, hI582.kp⟩
      ·skip
       refine ⟨_, [], rfl, RSub.nil, rfl, nodupB_spec rfl, ?_⟩
       simp only [relOut]
       refine s_xt rfl rfl rfl ?_
       refine Reg.nil ⟨rfl, .inr hI495.kp, rfl, ?_⟩
       intro w591 e592
       have hI593 := hI495.ext e592
       refine SeaWalk.step [6] (by kernel_rfl) (AllL.cons ?_ (AllL.nil))
       refine ⟨_, [], rfl, RSub.nil, rfl, nodupB_spec rfl, ?_⟩
       simp only [relOut]
       refine s_xt rfl rfl rfl ?_
       refine Reg.nil ⟨rfl, .inr hI593.kp, rfl, ?_⟩
       intro w594 e595
       have hI596 := hI593.ext e595
       refine SeaWalk.step [9] (by kernel_rfl) (AllL.cons ?_ (AllL.nil))
       refine ⟨_, [], rfl, RSub.nil, rfl, nodupB_spec rfl, ?_⟩
       simp only [relOut]
       have hI597 := hI38.join hI596
       refine y_st 0 hI597 rfl rfl rfl rfl Try.sizeOf45 rfl rfl (one1 rfl (one1 rfl one0)) ?_
       intro w598 hI599 x600
       have hC602 := hI599.freezeRow 0 rfl
       have hI601 := hI599.erase 0
       refine Reg.nil ⟨rfl, .inl rfl, rfl, ?_⟩
       intro w603 e604
       have hI605 := hI601.ext e604
       refine SeaWalk.step [10] (by kernel_rfl) (AllL.cons ?_ (AllL.nil))
       refine ⟨_, [], rfl, RSub.nil, rfl, nodupB_spec rfl, ?_⟩
       simp only [relOut]
       refine s_as rfl rfl ?_
       refine Reg.nil ⟨rfl, .inl rfl, rfl, ?_⟩
       intro w606 e607
       have hI608 := hI605.ext e607
       refine SeaWalk.done ?_
       refine cw_seq (cw_regF ?_)
       refine s_lda rfl (hC6.adv (hA12.trans ((Adv.of_ext e23).trans (x34.trans (x37.trans ((Hp.eraseA (σ := [rowR 25 b31 [Value.int .i64 z20.traits, v25, v27, Value.int .i64 z20.need]]) 0).trans ((Adv.of_ext e42).trans ((Hp.addLitA (σ := []) SpanE 45 k45).trans (x52.trans ((Adv.of_ext e54).trans ((Adv.of_ext e60).trans ((Adv.of_ext e66).trans (x489.trans ((Adv.of_ext e491).trans ((Adv.of_ext e494).trans ((Adv.of_ext e592).trans ((Adv.of_ext e595).trans (x600.trans ((Hp.eraseA (σ := [rowR 45 b486 [Value.int .i64 z56.lo, Value.int .i64 z56.hi], ownR [] SpanE 45 v49 l48]) 0).trans ((Adv.of_ext e604).trans (Adv.of_ext e607))))))))))))))))))))).cells Try.isAgg25 rfl Try.sizeOf25 rfl ?_
       refine s_mv rfl rfl ?_
       obtain ⟨⟨z609, z610⟩, hz611, h⟩ := bnd h
       refine s_call rfl Try.call23 rfl ?_
       refine (C_ref06_Between hI608.mlt f_m_0 (f_m_1.adv hI608.adv) (f_m_2.adv hI608.adv) f_m_3 (f_x_0.adv hI608.adv) hz611).mono ?_
       rintro _ w612 ⟨rfl, r614, r615, r616, e613⟩
       refine ⟨_, rfl, ?_⟩
       have hI617 := hI608.ext e613
       refine s_mv rfl rfl ?_
       refine s_xt rfl rfl rfl ?_
       refine s_xt rfl rfl rfl ?_
       refine y_al hI617 Try.zeroValue45 rfl rfl ?_
       intro b618 w619 hI620 x621
       refine y_st 0 hI620 rfl rfl rfl rfl Try.sizeOf45 rfl rfl (one1 rfl (one1 rfl one0)) ?_
       intro w622 hI623 x624
       have hC626 := hI623.freezeRow 0 rfl
       have hI625 := hI623.erase 0
       refine s_as rfl rfl ?_
       refine Reg.nil ?_
       obtain ⟨j627, h628, h⟩ := bnd h
       refine cw_sub (L := [(2, _), (5, _), (6, _), (7, _), (8, _), (9, _)]) (Sub.cons rfl (Sub.cons rfl (Sub.cons rfl (Sub.cons rfl (Sub.cons rfl (Sub.cons rfl (Sub.nil _))))))) ?_
       refine cw_seqD 6 (ι := Bool) (fun x629 => [(4, Value.bool x629)]) (fun x629 => fun w630 => Hp w [] M [ownR [] SpanE 45 v49 l48] w630 ∧ Adv (mm [ownR [] SpanE 45 v49 l48] M) (mm [ownR [] SpanE 45 v49 l48] M) w622 w630 ∧ x629 = j627) ?_ ?_
       ·skip
        refine cw_regF ?_
        refine s_lda rfl (hC602.adv ((Adv.of_ext e604).trans ((Adv.of_ext e607).trans ((Adv.of_ext e613).trans (x621.trans (x624.trans (Hp.eraseA (σ := [rowR 45 b618 [Value.int .i64 z609.lo, Value.int .i64 z609.hi], ownR [] SpanE 45 v49 l48]) 0))))))).cells Try.isAgg45 rfl Try.sizeOf45 rfl ?_
        refine s_lda rfl hC626.cells Try.isAgg45 rfl Try.sizeOf45 rfl ?_
        refine s_eqS (Span_eq (Span.mk z56.lo z56.hi) (Span.mk z609.lo z609.hi)) Try.eqGuardType45 rfl rfl rfl ?_
        refine s_mv rfl rfl ?_
        refine Reg.gsplit (t := 36) rfl (fun hg633 => ?_) (fun hg633 => ?_)
        ·replace h628 := cdT hg633 h628
         refine Reg.take rfl rfl ?_
         refine s_mv rfl rfl ?_
         refine Reg.take rfl rfl ?_
         refine s_mv rfl rfl ?_
         refine Reg.take rfl rfl ?_
         refine s_eql rfl rfl rfl ?_
         refine s_pkT rfl rfl rfl ?_
         refine s_mv rfl rfl ?_
         refine Reg.gsplit (t := 41) rfl (fun hg634 => ?_) (fun hg634 => ?_)
         ·replace h628 := cdT hg634 h628
          refine Reg.take rfl rfl ?_
          refine s_lda rfl (hC39.adv ((Adv.of_ext e42).trans ((Hp.addLitA (σ := []) SpanE 45 k45).trans (x52.trans ((Adv.of_ext e54).trans ((Adv.of_ext e60).trans ((Adv.of_ext e66).trans (x489.trans ((Adv.of_ext e491).trans ((Adv.of_ext e494).trans ((Adv.of_ext e592).trans ((Adv.of_ext e595).trans (x600.trans ((Hp.eraseA (σ := [rowR 45 b486 [Value.int .i64 z56.lo, Value.int .i64 z56.hi], ownR [] SpanE 45 v49 l48]) 0).trans ((Adv.of_ext e604).trans ((Adv.of_ext e607).trans ((Adv.of_ext e613).trans (x621.trans (x624.trans (Hp.eraseA (σ := [rowR 45 b618 [Value.int .i64 z609.lo, Value.int .i64 z609.hi], ownR [] SpanE 45 v49 l48]) 0)))))))))))))))))))).cells Try.isAgg25 rfl Try.sizeOf25 rfl ?_
          refine Reg.take rfl rfl ?_
          refine s_lda rfl (hC6.adv (hA12.trans ((Adv.of_ext e23).trans (x34.trans (x37.trans ((Hp.eraseA (σ := [rowR 25 b31 [Value.int .i64 z20.traits, v25, v27, Value.int .i64 z20.need]]) 0).trans ((Adv.of_ext e42).trans ((Hp.addLitA (σ := []) SpanE 45 k45).trans (x52.trans ((Adv.of_ext e54).trans ((Adv.of_ext e60).trans ((Adv.of_ext e66).trans (x489.trans ((Adv.of_ext e491).trans ((Adv.of_ext e494).trans ((Adv.of_ext e592).trans ((Adv.of_ext e595).trans (x600.trans ((Hp.eraseA (σ := [rowR 45 b486 [Value.int .i64 z56.lo, Value.int .i64 z56.hi], ownR [] SpanE 45 v49 l48]) 0).trans ((Adv.of_ext e604).trans ((Adv.of_ext e607).trans ((Adv.of_ext e613).trans (x621.trans (x624.trans (Hp.eraseA (σ := [rowR 45 b618 [Value.int .i64 z609.lo, Value.int .i64 z609.hi], ownR [] SpanE 45 v49 l48]) 0))))))))))))))))))))))))).cells Try.isAgg25 rfl Try.sizeOf25 rfl ?_
          refine Reg.take rfl rfl ?_
          obtain ⟨z635, hz636, h628⟩ := bnd h628
          refine s_call rfl Try.call21 rfl ?_
          refine (C_ref06_Same hI625.mlt r24 (hf26.adv (x34.trans (x37.trans ((Hp.eraseA (σ := [rowR 25 b31 [Value.int .i64 z20.traits, v25, v27, Value.int .i64 z20.need]]) 0).trans ((Adv.of_ext e42).trans ((Hp.addLitA (σ := []) SpanE 45 k45).trans (x52.trans ((Adv.of_ext e54).trans ((Adv.of_ext e60).trans ((Adv.of_ext e66).trans (x489.trans ((Adv.of_ext e491).trans ((Adv.of_ext e494).trans ((Adv.of_ext e592).trans ((Adv.of_ext e595).trans (x600.trans ((Hp.eraseA (σ := [rowR 45 b486 [Value.int .i64 z56.lo, Value.int .i64 z56.hi], ownR [] SpanE 45 v49 l48]) 0).trans ((Adv.of_ext e604).trans ((Adv.of_ext e607).trans ((Adv.of_ext e613).trans (x621.trans (x624.trans (Hp.eraseA (σ := [rowR 45 b618 [Value.int .i64 z609.lo, Value.int .i64 z609.hi], ownR [] SpanE 45 v49 l48]) 0))))))))))))))))))))))) (hf28.adv (x34.trans (x37.trans ((Hp.eraseA (σ := [rowR 25 b31 [Value.int .i64 z20.traits, v25, v27, Value.int .i64 z20.need]]) 0).trans ((Adv.of_ext e42).trans ((Hp.addLitA (σ := []) SpanE 45 k45).trans (x52.trans ((Adv.of_ext e54).trans ((Adv.of_ext e60).trans ((Adv.of_ext e66).trans (x489.trans ((Adv.of_ext e491).trans ((Adv.of_ext e494).trans ((Adv.of_ext e592).trans ((Adv.of_ext e595).trans (x600.trans ((Hp.eraseA (σ := [rowR 45 b486 [Value.int .i64 z56.lo, Value.int .i64 z56.hi], ownR [] SpanE 45 v49 l48]) 0).trans ((Adv.of_ext e604).trans ((Adv.of_ext e607).trans ((Adv.of_ext e613).trans (x621.trans (x624.trans (Hp.eraseA (σ := [rowR 45 b618 [Value.int .i64 z609.lo, Value.int .i64 z609.hi], ownR [] SpanE 45 v49 l48]) 0))))))))))))))))))))))) r29 f_m_0 (f_m_1.adv hI625.adv) (f_m_2.adv hI625.adv) f_m_3 hz636).mono ?_
          rintro _ w637 ⟨rfl, e638⟩
          refine ⟨_, rfl, ?_⟩
          have hI639 := hI625.ext e638
          refine s_pkT rfl rfl rfl ?_
          refine s_as rfl rfl ?_
          refine Reg.nil ?_
          obtain rfl := Option.some.inj h628
          refine ⟨rfl, z635, ⟨hI639, (Adv.of_ext e638), rfl⟩, Sub.cons rfl (Sub.nil _)⟩
         ·replace h628 := cdF hg634 h628
          refine Reg.pass rfl rfl rfl rfl ?_
          refine Reg.pass rfl rfl rfl rfl ?_
          refine Reg.pass rfl rfl rfl rfl ?_
          refine s_pkF rfl rfl rfl ?_
          refine s_as rfl rfl ?_
          refine Reg.nil ?_
          obtain rfl := Option.some.inj h628
          refine ⟨rfl, false, ⟨hI625, (Adv.refl _ _), rfl⟩, Sub.cons rfl (Sub.nil _)⟩
        ·replace h628 := cdF hg633 h628
         refine Reg.pass rfl rfl rfl rfl ?_
         refine Reg.pass rfl rfl rfl rfl ?_
         refine Reg.pass rfl rfl rfl rfl ?_
         refine s_pkF rfl rfl rfl ?_
         refine s_mv rfl rfl ?_
         refine Reg.pass rfl rfl rfl rfl ?_
         refine Reg.pass rfl rfl rfl rfl ?_
         refine Reg.pass rfl rfl rfl rfl ?_
         refine s_pkF rfl rfl rfl ?_
         refine s_as rfl rfl ?_
         refine Reg.nil ?_
         obtain rfl := Option.some.inj h628
         refine ⟨rfl, false, ⟨hI625, (Adv.refl _ _), rfl⟩, Sub.cons rfl (Sub.nil _)⟩
       ·skip
        rintro x629 w630 ⟨hI631, hA632, rfl⟩
        refine cw_ret ?_
        obtain rfl := Option.some.inj h
        refine fin1 Try.results4 rfl ?_
        exact ⟨rfl, hI631.kp⟩
    ·skip
     refine ⟨_, [], rfl, RSub.nil, rfl, nodupB_spec rfl, ?_⟩
     simp only [relOut]
     refine y_al hI55 Try.zeroValue45 rfl rfl ?_
     intro b640 w641 hI642 x643
     refine Reg.nil ⟨rfl, .inr hI642.kp, rfl, ?_⟩
     intro w644 e645
     have hI646 := hI642.ext e645
     refine SeaWalk.step [4] (by kernel_rfl) (AllL.cons ?_ (AllL.nil))
     refine ⟨_, [], rfl, RSub.nil, rfl, nodupB_spec rfl, ?_⟩
     simp only [relOut]
     obtain ⟨⟨z647, z648⟩, hz649, h⟩ := bnd h
     refine s_call rfl Try.call22 rfl ?_
     refine (C_score_Between (hI646.sel [0] rfl).mlt r24 ((hf26.adv (x34.trans (x37.trans ((Hp.eraseA (σ := [rowR 25 b31 [Value.int .i64 z20.traits, v25, v27, Value.int .i64 z20.need]]) 0).trans ((Adv.of_ext e42).trans ((Hp.addLitA (σ := []) SpanE 45 k45).trans (x52.trans ((Adv.of_ext e54).trans (x643.trans (Adv.of_ext e645)))))))))).adv (Hp.selA (σ := [rowR 45 b640 [Value.int .i64 0, Value.int .i64 0], ownR [] SpanE 45 v49 l48]) [0])) ((hf28.adv (x34.trans (x37.trans ((Hp.eraseA (σ := [rowR 25 b31 [Value.int .i64 z20.traits, v25, v27, Value.int .i64 z20.need]]) 0).trans ((Adv.of_ext e42).trans ((Hp.addLitA (σ := []) SpanE 45 k45).trans (x52.trans ((Adv.of_ext e54).trans (x643.trans (Adv.of_ext e645)))))))))).adv (Hp.selA (σ := [rowR 45 b640 [Value.int .i64 0, Value.int .i64 0], ownR [] SpanE 45 v49 l48]) [0])) r29 (hI646.lendRd [0] 1 rfl rfl) hz649).mono ?_
     rintro _ w650 ⟨rfl, r652, r653, r654, e651⟩
     refine ⟨_, rfl, ?_⟩
     have hI655 := hI646.ext e651
     refine Reg.nil ⟨rfl, .inr hI655.kp, rfl, ?_⟩
     intro w656 e657
     have hI658 := hI655.ext e657
     refine SeaWalk.step [5] (by kernel_rfl) (AllL.cons ?_ (AllL.nil))
     refine ⟨_, [], rfl, RSub.nil, rfl, nodupB_spec rfl, ?_⟩
     simp only [relOut]
     refine s_mv rfl rfl ?_
     refine Reg.nil ⟨rfl, .inr hI658.kp, rfl, ?_⟩
     intro w659 e660
     have hI661 := hI658.ext e660
     refine SeaWalk.step [6, 7] (by kernel_rfl) (AllL.cons ?_ (AllL.cons ?_ (AllL.nil)))
     ·skip
      refine ⟨_, [], rfl, RSub.nil, rfl, nodupB_spec rfl, ?_⟩
      simp only [relOut]
      refine s_xt rfl rfl rfl ?_
      refine Reg.nil ⟨rfl, .inr hI661.kp, rfl, ?_⟩
      intro w662 e663
      have hI664 := hI661.ext e663
      refine SeaWalk.step [7, 9] (by kernel_rfl) (AllL.cons ?_ (AllL.cons ?_ (AllL.nil)))
      ·skip
       refine ⟨_, [], rfl, RSub.nil, rfl, nodupB_spec rfl, ?_⟩
       simp only [relOut]
       refine s_xt rfl rfl rfl ?_
       refine Reg.nil ⟨rfl, .inr hI664.kp, rfl, ?_⟩
       intro w665 e666
       have hI667 := hI664.ext e666
       refine SeaWalk.step [9] (by kernel_rfl) (AllL.cons ?_ (AllL.nil))
       refine ⟨_, [], rfl, RSub.nil, rfl, nodupB_spec rfl, ?_⟩
       simp only [relOut]
       have hI668 := hI38.join hI667
       refine y_st 0 hI668 rfl rfl rfl rfl Try.sizeOf45 rfl rfl (one1 rfl (one1 rfl one0)) ?_
       intro w669 hI670 x671
       have hC673 := hI670.freezeRow 0 rfl
       have hI672 := hI670.erase 0
       refine Reg.nil ⟨rfl, .inl rfl, rfl, ?_⟩
       intro w674 e675
       have hI676 := hI672.ext e675
       refine SeaWalk.step [10] (by kernel_rfl) (AllL.cons ?_ (AllL.nil))
       refine ⟨_, [], rfl, RSub.nil, rfl, nodupB_spec rfl, ?_⟩
       simp only [relOut]
       refine s_as rfl rfl ?_
       refine Reg.nil ⟨rfl, .inl rfl, rfl, ?_⟩
       intro w677 e678
       have hI679 := hI676.ext e678
       refine SeaWalk.done ?_
       refine cw_seq (cw_regF ?_)
       refine s_lda rfl (hC6.adv (hA12.trans ((Adv.of_ext e23).trans (x34.trans (x37.trans ((Hp.eraseA (σ := [rowR 25 b31 [Value.int .i64 z20.traits, v25, v27, Value.int .i64 z20.need]]) 0).trans ((Adv.of_ext e42).trans ((Hp.addLitA (σ := []) SpanE 45 k45).trans (x52.trans ((Adv.of_ext e54).trans (x643.trans ((Adv.of_ext e645).trans ((Adv.of_ext e651).trans ((Adv.of_ext e657).trans ((Adv.of_ext e660).trans ((Adv.of_ext e663).trans ((Adv.of_ext e666).trans (x671.trans ((Hp.eraseA (σ := [rowR 45 b640 [Value.int .i64 z647.lo, Value.int .i64 z647.hi], ownR [] SpanE 45 v49 l48]) 0).trans ((Adv.of_ext e675).trans (Adv.of_ext e678))))))))))))))))))))).cells Try.isAgg25 rfl Try.sizeOf25 rfl ?_
       refine s_mv rfl rfl ?_
       obtain ⟨⟨z680, z681⟩, hz682, h⟩ := bnd h
       refine s_call rfl Try.call23 rfl ?_
       refine (C_ref06_Between hI679.mlt f_m_0 (f_m_1.adv hI679.adv) (f_m_2.adv hI679.adv) f_m_3 (f_x_0.adv hI679.adv) hz682).mono ?_
       rintro _ w683 ⟨rfl, r685, r686, r687, e684⟩
       refine ⟨_, rfl, ?_⟩
       have hI688 := hI679.ext e684
       refine s_mv rfl rfl ?_
       refine s_xt rfl rfl rfl ?_
       refine s_xt rfl rfl rfl ?_
       refine y_al hI688 Try.zeroValue45 rfl rfl ?_
       intro b689 w690 hI691 x692
       refine y_st 0 hI691 rfl rfl rfl rfl Try.sizeOf45 rfl rfl (one1 rfl (one1 rfl one0)) ?_
       intro w693 hI694 x695
       have hC697 := hI694.freezeRow 0 rfl
       have hI696 := hI694.erase 0
       refine s_as rfl rfl ?_
       refine Reg.nil ?_
       obtain ⟨j698, h699, h⟩ := bnd h
       refine cw_sub (L := [(2, _), (5, _), (6, _), (7, _), (8, _), (9, _)]) (Sub.cons rfl (Sub.cons rfl (Sub.cons rfl (Sub.cons rfl (Sub.cons rfl (Sub.cons rfl (Sub.nil _))))))) ?_
       refine cw_seqD 6 (ι := Bool) (fun x700 => [(4, Value.bool x700)]) (fun x700 => fun w701 => Hp w [] M [ownR [] SpanE 45 v49 l48] w701 ∧ Adv (mm [ownR [] SpanE 45 v49 l48] M) (mm [ownR [] SpanE 45 v49 l48] M) w693 w701 ∧ x700 = j698) ?_ ?_
       ·skip
        refine cw_regF ?_
        refine s_lda rfl (hC673.adv ((Adv.of_ext e675).trans ((Adv.of_ext e678).trans ((Adv.of_ext e684).trans (x692.trans (x695.trans (Hp.eraseA (σ := [rowR 45 b689 [Value.int .i64 z680.lo, Value.int .i64 z680.hi], ownR [] SpanE 45 v49 l48]) 0))))))).cells Try.isAgg45 rfl Try.sizeOf45 rfl ?_
        refine s_lda rfl hC697.cells Try.isAgg45 rfl Try.sizeOf45 rfl ?_
        refine s_eqS (Span_eq (Span.mk z647.lo z647.hi) (Span.mk z680.lo z680.hi)) Try.eqGuardType45 rfl rfl rfl ?_
        refine s_mv rfl rfl ?_
        refine Reg.gsplit (t := 36) rfl (fun hg704 => ?_) (fun hg704 => ?_)
        ·replace h699 := cdT hg704 h699
         refine Reg.take rfl rfl ?_
         refine s_mv rfl rfl ?_
         refine Reg.take rfl rfl ?_
         refine s_mv rfl rfl ?_
         refine Reg.take rfl rfl ?_
         refine s_eql rfl rfl rfl ?_
         refine s_pkT rfl rfl rfl ?_
         refine s_mv rfl rfl ?_
         refine Reg.gsplit (t := 41) rfl (fun hg705 => ?_) (fun hg705 => ?_)
         ·replace h699 := cdT hg705 h699
          refine Reg.take rfl rfl ?_
          refine s_lda rfl (hC39.adv ((Adv.of_ext e42).trans ((Hp.addLitA (σ := []) SpanE 45 k45).trans (x52.trans ((Adv.of_ext e54).trans (x643.trans ((Adv.of_ext e645).trans ((Adv.of_ext e651).trans ((Adv.of_ext e657).trans ((Adv.of_ext e660).trans ((Adv.of_ext e663).trans ((Adv.of_ext e666).trans (x671.trans ((Hp.eraseA (σ := [rowR 45 b640 [Value.int .i64 z647.lo, Value.int .i64 z647.hi], ownR [] SpanE 45 v49 l48]) 0).trans ((Adv.of_ext e675).trans ((Adv.of_ext e678).trans ((Adv.of_ext e684).trans (x692.trans (x695.trans (Hp.eraseA (σ := [rowR 45 b689 [Value.int .i64 z680.lo, Value.int .i64 z680.hi], ownR [] SpanE 45 v49 l48]) 0)))))))))))))))))))).cells Try.isAgg25 rfl Try.sizeOf25 rfl ?_
          refine Reg.take rfl rfl ?_
          refine s_lda rfl (hC6.adv (hA12.trans ((Adv.of_ext e23).trans (x34.trans (x37.trans ((Hp.eraseA (σ := [rowR 25 b31 [Value.int .i64 z20.traits, v25, v27, Value.int .i64 z20.need]]) 0).trans ((Adv.of_ext e42).trans ((Hp.addLitA (σ := []) SpanE 45 k45).trans (x52.trans ((Adv.of_ext e54).trans (x643.trans ((Adv.of_ext e645).trans ((Adv.of_ext e651).trans ((Adv.of_ext e657).trans ((Adv.of_ext e660).trans ((Adv.of_ext e663).trans ((Adv.of_ext e666).trans (x671.trans ((Hp.eraseA (σ := [rowR 45 b640 [Value.int .i64 z647.lo, Value.int .i64 z647.hi], ownR [] SpanE 45 v49 l48]) 0).trans ((Adv.of_ext e675).trans ((Adv.of_ext e678).trans ((Adv.of_ext e684).trans (x692.trans (x695.trans (Hp.eraseA (σ := [rowR 45 b689 [Value.int .i64 z680.lo, Value.int .i64 z680.hi], ownR [] SpanE 45 v49 l48]) 0))))))))))))))))))))))))).cells Try.isAgg25 rfl Try.sizeOf25 rfl ?_
          refine Reg.take rfl rfl ?_
          obtain ⟨z706, hz707, h699⟩ := bnd h699
          refine s_call rfl Try.call21 rfl ?_
          refine (C_ref06_Same hI696.mlt r24 (hf26.adv (x34.trans (x37.trans ((Hp.eraseA (σ := [rowR 25 b31 [Value.int .i64 z20.traits, v25, v27, Value.int .i64 z20.need]]) 0).trans ((Adv.of_ext e42).trans ((Hp.addLitA (σ := []) SpanE 45 k45).trans (x52.trans ((Adv.of_ext e54).trans (x643.trans ((Adv.of_ext e645).trans ((Adv.of_ext e651).trans ((Adv.of_ext e657).trans ((Adv.of_ext e660).trans ((Adv.of_ext e663).trans ((Adv.of_ext e666).trans (x671.trans ((Hp.eraseA (σ := [rowR 45 b640 [Value.int .i64 z647.lo, Value.int .i64 z647.hi], ownR [] SpanE 45 v49 l48]) 0).trans ((Adv.of_ext e675).trans ((Adv.of_ext e678).trans ((Adv.of_ext e684).trans (x692.trans (x695.trans (Hp.eraseA (σ := [rowR 45 b689 [Value.int .i64 z680.lo, Value.int .i64 z680.hi], ownR [] SpanE 45 v49 l48]) 0))))))))))))))))))))))) (hf28.adv (x34.trans (x37.trans ((Hp.eraseA (σ := [rowR 25 b31 [Value.int .i64 z20.traits, v25, v27, Value.int .i64 z20.need]]) 0).trans ((Adv.of_ext e42).trans ((Hp.addLitA (σ := []) SpanE 45 k45).trans (x52.trans ((Adv.of_ext e54).trans (x643.trans ((Adv.of_ext e645).trans ((Adv.of_ext e651).trans ((Adv.of_ext e657).trans ((Adv.of_ext e660).trans ((Adv.of_ext e663).trans ((Adv.of_ext e666).trans (x671.trans ((Hp.eraseA (σ := [rowR 45 b640 [Value.int .i64 z647.lo, Value.int .i64 z647.hi], ownR [] SpanE 45 v49 l48]) 0).trans ((Adv.of_ext e675).trans ((Adv.of_ext e678).trans ((Adv.of_ext e684).trans (x692.trans (x695.trans (Hp.eraseA (σ := [rowR 45 b689 [Value.int .i64 z680.lo, Value.int .i64 z680.hi], ownR [] SpanE 45 v49 l48]) 0))))))))))))))))))))))) r29 f_m_0 (f_m_1.adv hI696.adv) (f_m_2.adv hI696.adv) f_m_3 hz707).mono ?_
          rintro _ w708 ⟨rfl, e709⟩
          refine ⟨_, rfl, ?_⟩
          have hI710 := hI696.ext e709
          refine s_pkT rfl rfl rfl ?_
          refine s_as rfl rfl ?_
          refine Reg.nil ?_
          obtain rfl := Option.some.inj h699
          refine ⟨rfl, z706, ⟨hI710, (Adv.of_ext e709), rfl⟩, Sub.cons rfl (Sub.nil _)⟩
         ·replace h699 := cdF hg705 h699
          refine Reg.pass rfl rfl rfl rfl ?_
          refine Reg.pass rfl rfl rfl rfl ?_
          refine Reg.pass rfl rfl rfl rfl ?_
          refine s_pkF rfl rfl rfl ?_
          refine s_as rfl rfl ?_
          refine Reg.nil ?_
          obtain rfl := Option.some.inj h699
          refine ⟨rfl, false, ⟨hI696, (Adv.refl _ _), rfl⟩, Sub.cons rfl (Sub.nil _)⟩
        ·replace h699 := cdF hg704 h699
         refine Reg.pass rfl rfl rfl rfl ?_
         refine Reg.pass rfl rfl rfl rfl ?_
         refine Reg.pass rfl rfl rfl rfl ?_
         refine s_pkF rfl rfl rfl ?_
         refine s_mv rfl rfl ?_
         refine Reg.pass rfl rfl rfl rfl ?_
         refine Reg.pass rfl rfl rfl rfl ?_
         refine Reg.pass rfl rfl rfl rfl ?_
         refine s_pkF rfl rfl rfl ?_
         refine s_as rfl rfl ?_
         refine Reg.nil ?_
         obtain rfl := Option.some.inj h699
         refine ⟨rfl, false, ⟨hI696, (Adv.refl _ _), rfl⟩, Sub.cons rfl (Sub.nil _)⟩
       ·skip
        rintro x700 w701 ⟨hI702, hA703, rfl⟩
        refine cw_ret ?_
        obtain rfl := Option.some.inj h
        refine fin1 Try.results4 rfl ?_
        exact ⟨rfl, hI702.kp⟩
      ·skip
       refine ⟨_, [], rfl, RSub.nil, rfl, nodupB_spec rfl, ?_⟩
       simp only [relOut]
       have hI711 := hI38.join hI664
       refine y_st 0 hI711 rfl rfl rfl rfl Try.sizeOf45 rfl rfl (one1 rfl (one1 rfl one0)) ?_
       intro w712 hI713 x714
       have hC716 := hI713.freezeRow 0 rfl
       have hI715 := hI713.erase 0
       refine Reg.nil ⟨rfl, .inl rfl, rfl, ?_⟩
       intro w717 e718
       have hI719 := hI715.ext e718
       refine SeaWalk.step [7] (by kernel_rfl) (AllL.cons ?_ (AllL.nil))
       refine ⟨_, [], rfl, RSub.nil, rfl, nodupB_spec rfl, ?_⟩
       simp only [relOut]
       refine s_xt rfl rfl rfl ?_
       refine Reg.nil ⟨rfl, .inl rfl, rfl, ?_⟩
       intro w720 e721
       have hI722 := hI719.ext e721
       refine SeaWalk.step [10] (by kernel_rfl) (AllL.cons ?_ (AllL.nil))
       refine ⟨_, [], rfl, RSub.nil, rfl, nodupB_spec rfl, ?_⟩
       simp only [relOut]
       refine s_as rfl rfl ?_
       refine Reg.nil ⟨rfl, .inl rfl, rfl, ?_⟩
       intro w723 e724
       have hI725 := hI722.ext e724
       refine SeaWalk.done ?_
       refine cw_seq (cw_regF ?_)
       refine s_lda rfl (hC6.adv (hA12.trans ((Adv.of_ext e23).trans (x34.trans (x37.trans ((Hp.eraseA (σ := [rowR 25 b31 [Value.int .i64 z20.traits, v25, v27, Value.int .i64 z20.need]]) 0).trans ((Adv.of_ext e42).trans ((Hp.addLitA (σ := []) SpanE 45 k45).trans (x52.trans ((Adv.of_ext e54).trans (x643.trans ((Adv.of_ext e645).trans ((Adv.of_ext e651).trans ((Adv.of_ext e657).trans ((Adv.of_ext e660).trans ((Adv.of_ext e663).trans (x714.trans ((Hp.eraseA (σ := [rowR 45 b640 [Value.int .i64 z647.lo, Value.int .i64 z647.hi], ownR [] SpanE 45 v49 l48]) 0).trans ((Adv.of_ext e718).trans ((Adv.of_ext e721).trans (Adv.of_ext e724))))))))))))))))))))).cells Try.isAgg25 rfl Try.sizeOf25 rfl ?_
       refine s_mv rfl rfl ?_
       obtain ⟨⟨z726, z727⟩, hz728, h⟩ := bnd h
       refine s_call rfl Try.call23 rfl ?_
       refine (C_ref06_Between hI725.mlt f_m_0 (f_m_1.adv hI725.adv) (f_m_2.adv hI725.adv) f_m_3 (f_x_0.adv hI725.adv) hz728).mono ?_
       rintro _ w729 ⟨rfl, r731, r732, r733, e730⟩
       refine ⟨_, rfl, ?_⟩
       have hI734 := hI725.ext e730
       refine s_mv rfl rfl ?_
       refine s_xt rfl rfl rfl ?_
       refine s_xt rfl rfl rfl ?_
       refine y_al hI734 Try.zeroValue45 rfl rfl ?_
       intro b735 w736 hI737 x738
       refine y_st 0 hI737 rfl rfl rfl rfl Try.sizeOf45 rfl rfl (one1 rfl (one1 rfl one0)) ?_
       intro w739 hI740 x741
       have hC743 := hI740.freezeRow 0 rfl
       have hI742 := hI740.erase 0
       refine s_as rfl rfl ?_
       refine Reg.nil ?_
       obtain ⟨j744, h745, h⟩ := bnd h
       refine cw_sub (L := [(2, _), (5, _), (6, _), (7, _), (8, _), (9, _)]) (Sub.cons rfl (Sub.cons rfl (Sub.cons rfl (Sub.cons rfl (Sub.cons rfl (Sub.cons rfl (Sub.nil _))))))) ?_
       refine cw_seqD 6 (ι := Bool) (fun x746 => [(4, Value.bool x746)]) (fun x746 => fun w747 => Hp w [] M [ownR [] SpanE 45 v49 l48] w747 ∧ Adv (mm [ownR [] SpanE 45 v49 l48] M) (mm [ownR [] SpanE 45 v49 l48] M) w739 w747 ∧ x746 = j744) ?_ ?_
       ·skip
        refine cw_regF ?_
        refine s_lda rfl (hC716.adv ((Adv.of_ext e718).trans ((Adv.of_ext e721).trans ((Adv.of_ext e724).trans ((Adv.of_ext e730).trans (x738.trans (x741.trans (Hp.eraseA (σ := [rowR 45 b735 [Value.int .i64 z726.lo, Value.int .i64 z726.hi], ownR [] SpanE 45 v49 l48]) 0)))))))).cells Try.isAgg45 rfl Try.sizeOf45 rfl ?_
        refine s_lda rfl hC743.cells Try.isAgg45 rfl Try.sizeOf45 rfl ?_
        refine s_eqS (Span_eq (Span.mk z647.lo z647.hi) (Span.mk z726.lo z726.hi)) Try.eqGuardType45 rfl rfl rfl ?_
        refine s_mv rfl rfl ?_
        refine Reg.gsplit (t := 36) rfl (fun hg750 => ?_) (fun hg750 => ?_)
        ·replace h745 := cdT hg750 h745
         refine Reg.take rfl rfl ?_
         refine s_mv rfl rfl ?_
         refine Reg.take rfl rfl ?_
         refine s_mv rfl rfl ?_
         refine Reg.take rfl rfl ?_
         refine s_eql rfl rfl rfl ?_
         refine s_pkT rfl rfl rfl ?_
         refine s_mv rfl rfl ?_
         refine Reg.gsplit (t := 41) rfl (fun hg751 => ?_) (fun hg751 => ?_)
         ·replace h745 := cdT hg751 h745
          refine Reg.take rfl rfl ?_
          refine s_lda rfl (hC39.adv ((Adv.of_ext e42).trans ((Hp.addLitA (σ := []) SpanE 45 k45).trans (x52.trans ((Adv.of_ext e54).trans (x643.trans ((Adv.of_ext e645).trans ((Adv.of_ext e651).trans ((Adv.of_ext e657).trans ((Adv.of_ext e660).trans ((Adv.of_ext e663).trans (x714.trans ((Hp.eraseA (σ := [rowR 45 b640 [Value.int .i64 z647.lo, Value.int .i64 z647.hi], ownR [] SpanE 45 v49 l48]) 0).trans ((Adv.of_ext e718).trans ((Adv.of_ext e721).trans ((Adv.of_ext e724).trans ((Adv.of_ext e730).trans (x738.trans (x741.trans (Hp.eraseA (σ := [rowR 45 b735 [Value.int .i64 z726.lo, Value.int .i64 z726.hi], ownR [] SpanE 45 v49 l48]) 0)))))))))))))))))))).cells Try.isAgg25 rfl Try.sizeOf25 rfl ?_
          refine Reg.take rfl rfl ?_
          refine s_lda rfl (hC6.adv (hA12.trans ((Adv.of_ext e23).trans (x34.trans (x37.trans ((Hp.eraseA (σ := [rowR 25 b31 [Value.int .i64 z20.traits, v25, v27, Value.int .i64 z20.need]]) 0).trans ((Adv.of_ext e42).trans ((Hp.addLitA (σ := []) SpanE 45 k45).trans (x52.trans ((Adv.of_ext e54).trans (x643.trans ((Adv.of_ext e645).trans ((Adv.of_ext e651).trans ((Adv.of_ext e657).trans ((Adv.of_ext e660).trans ((Adv.of_ext e663).trans (x714.trans ((Hp.eraseA (σ := [rowR 45 b640 [Value.int .i64 z647.lo, Value.int .i64 z647.hi], ownR [] SpanE 45 v49 l48]) 0).trans ((Adv.of_ext e718).trans ((Adv.of_ext e721).trans ((Adv.of_ext e724).trans ((Adv.of_ext e730).trans (x738.trans (x741.trans (Hp.eraseA (σ := [rowR 45 b735 [Value.int .i64 z726.lo, Value.int .i64 z726.hi], ownR [] SpanE 45 v49 l48]) 0))))))))))))))))))))))))).cells Try.isAgg25 rfl Try.sizeOf25 rfl ?_
          refine Reg.take rfl rfl ?_
          obtain ⟨z752, hz753, h745⟩ := bnd h745
          refine s_call rfl Try.call21 rfl ?_
          refine (C_ref06_Same hI742.mlt r24 (hf26.adv (x34.trans (x37.trans ((Hp.eraseA (σ := [rowR 25 b31 [Value.int .i64 z20.traits, v25, v27, Value.int .i64 z20.need]]) 0).trans ((Adv.of_ext e42).trans ((Hp.addLitA (σ := []) SpanE 45 k45).trans (x52.trans ((Adv.of_ext e54).trans (x643.trans ((Adv.of_ext e645).trans ((Adv.of_ext e651).trans ((Adv.of_ext e657).trans ((Adv.of_ext e660).trans ((Adv.of_ext e663).trans (x714.trans ((Hp.eraseA (σ := [rowR 45 b640 [Value.int .i64 z647.lo, Value.int .i64 z647.hi], ownR [] SpanE 45 v49 l48]) 0).trans ((Adv.of_ext e718).trans ((Adv.of_ext e721).trans ((Adv.of_ext e724).trans ((Adv.of_ext e730).trans (x738.trans (x741.trans (Hp.eraseA (σ := [rowR 45 b735 [Value.int .i64 z726.lo, Value.int .i64 z726.hi], ownR [] SpanE 45 v49 l48]) 0))))))))))))))))))))))) (hf28.adv (x34.trans (x37.trans ((Hp.eraseA (σ := [rowR 25 b31 [Value.int .i64 z20.traits, v25, v27, Value.int .i64 z20.need]]) 0).trans ((Adv.of_ext e42).trans ((Hp.addLitA (σ := []) SpanE 45 k45).trans (x52.trans ((Adv.of_ext e54).trans (x643.trans ((Adv.of_ext e645).trans ((Adv.of_ext e651).trans ((Adv.of_ext e657).trans ((Adv.of_ext e660).trans ((Adv.of_ext e663).trans (x714.trans ((Hp.eraseA (σ := [rowR 45 b640 [Value.int .i64 z647.lo, Value.int .i64 z647.hi], ownR [] SpanE 45 v49 l48]) 0).trans ((Adv.of_ext e718).trans ((Adv.of_ext e721).trans ((Adv.of_ext e724).trans ((Adv.of_ext e730).trans (x738.trans (x741.trans (Hp.eraseA (σ := [rowR 45 b735 [Value.int .i64 z726.lo, Value.int .i64 z726.hi], ownR [] SpanE 45 v49 l48]) 0))))))))))))))))))))))) r29 f_m_0 (f_m_1.adv hI742.adv) (f_m_2.adv hI742.adv) f_m_3 hz753).mono ?_
          rintro _ w754 ⟨rfl, e755⟩
          refine ⟨_, rfl, ?_⟩
          have hI756 := hI742.ext e755
          refine s_pkT rfl rfl rfl ?_
          refine s_as rfl rfl ?_
          refine Reg.nil ?_
          obtain rfl := Option.some.inj h745
          refine ⟨rfl, z752, ⟨hI756, (Adv.of_ext e755), rfl⟩, Sub.cons rfl (Sub.nil _)⟩
         ·replace h745 := cdF hg751 h745
          refine Reg.pass rfl rfl rfl rfl ?_
          refine Reg.pass rfl rfl rfl rfl ?_
          refine Reg.pass rfl rfl rfl rfl ?_
          refine s_pkF rfl rfl rfl ?_
          refine s_as rfl rfl ?_
          refine Reg.nil ?_
          obtain rfl := Option.some.inj h745
          refine ⟨rfl, false, ⟨hI742, (Adv.refl _ _), rfl⟩, Sub.cons rfl (Sub.nil _)⟩
        ·replace h745 := cdF hg750 h745
         refine Reg.pass rfl rfl rfl rfl ?_
         refine Reg.pass rfl rfl rfl rfl ?_
         refine Reg.pass rfl rfl rfl rfl ?_
         refine s_pkF rfl rfl rfl ?_
         refine s_mv rfl rfl ?_
         refine Reg.pass rfl rfl rfl rfl ?_
         refine Reg.pass rfl rfl rfl rfl ?_
         refine Reg.pass rfl rfl rfl rfl ?_
         refine s_pkF rfl rfl rfl ?_
         refine s_as rfl rfl ?_
         refine Reg.nil ?_
         obtain rfl := Option.some.inj h745
         refine ⟨rfl, false, ⟨hI742, (Adv.refl _ _), rfl⟩, Sub.cons rfl (Sub.nil _)⟩
       ·skip
        rintro x746 w747 ⟨hI748, hA749, rfl⟩
        refine cw_ret ?_
        obtain rfl := Option.some.inj h
        refine fin1 Try.results4 rfl ?_
        exact ⟨rfl, hI748.kp⟩
     ·skip
      refine ⟨_, [], rfl, RSub.nil, rfl, nodupB_spec rfl, ?_⟩
      simp only [relOut]
      refine s_xt rfl rfl rfl ?_
      refine Reg.nil ⟨rfl, .inr hI661.kp, rfl, ?_⟩
      intro w757 e758
      have hI759 := hI661.ext e758
      refine SeaWalk.step [6] (by kernel_rfl) (AllL.cons ?_ (AllL.nil))
      refine ⟨_, [], rfl, RSub.nil, rfl, nodupB_spec rfl, ?_⟩
      simp only [relOut]
      refine s_xt rfl rfl rfl ?_
      refine Reg.nil ⟨rfl, .inr hI759.kp, rfl, ?_⟩
      intro w760 e761
      have hI762 := hI759.ext e761
      refine SeaWalk.step [9] (by kernel_rfl) (AllL.cons ?_ (AllL.nil))
      refine ⟨_, [], rfl, RSub.nil, rfl, nodupB_spec rfl, ?_⟩
      simp only [relOut]
      have hI763 := hI38.join hI762
      refine y_st 0 hI763 rfl rfl rfl rfl Try.sizeOf45 rfl rfl (one1 rfl (one1 rfl one0)) ?_
      intro w764 hI765 x766
      have hC768 := hI765.freezeRow 0 rfl
      have hI767 := hI765.erase 0
      refine Reg.nil ⟨rfl, .inl rfl, rfl, ?_⟩
      intro w769 e770
      have hI771 := hI767.ext e770
      refine SeaWalk.step [10] (by kernel_rfl) (AllL.cons ?_ (AllL.nil))
      refine ⟨_, [], rfl, RSub.nil, rfl, nodupB_spec rfl, ?_⟩
      simp only [relOut]
      refine s_as rfl rfl ?_
      refine Reg.nil ⟨rfl, .inl rfl, rfl, ?_⟩
      intro w772 e773
      have hI774 := hI771.ext e773
      refine SeaWalk.done ?_
      refine cw_seq (cw_regF ?_)
      refine s_lda rfl (hC6.adv (hA12.trans ((Adv.of_ext e23).trans (x34.trans (x37.trans ((Hp.eraseA (σ := [rowR 25 b31 [Value.int .i64 z20.traits, v25, v27, Value.int .i64 z20.need]]) 0).trans ((Adv.of_ext e42).trans ((Hp.addLitA (σ := []) SpanE 45 k45).trans (x52.trans ((Adv.of_ext e54).trans (x643.trans ((Adv.of_ext e645).trans ((Adv.of_ext e651).trans ((Adv.of_ext e657).trans ((Adv.of_ext e660).trans ((Adv.of_ext e758).trans ((Adv.of_ext e761).trans (x766.trans ((Hp.eraseA (σ := [rowR 45 b640 [Value.int .i64 z647.lo, Value.int .i64 z647.hi], ownR [] SpanE 45 v49 l48]) 0).trans ((Adv.of_ext e770).trans (Adv.of_ext e773))))))))))))))))))))).cells Try.isAgg25 rfl Try.sizeOf25 rfl ?_
      refine s_mv rfl rfl ?_
      obtain ⟨⟨z775, z776⟩, hz777, h⟩ := bnd h
      refine s_call rfl Try.call23 rfl ?_
      refine (C_ref06_Between hI774.mlt f_m_0 (f_m_1.adv hI774.adv) (f_m_2.adv hI774.adv) f_m_3 (f_x_0.adv hI774.adv) hz777).mono ?_
      rintro _ w778 ⟨rfl, r780, r781, r782, e779⟩
      refine ⟨_, rfl, ?_⟩
      have hI783 := hI774.ext e779
      refine s_mv rfl rfl ?_
      refine s_xt rfl rfl rfl ?_
      refine s_xt rfl rfl rfl ?_
      refine y_al hI783 Try.zeroValue45 rfl rfl ?_
      intro b784 w785 hI786 x787
      refine y_st 0 hI786 rfl rfl rfl rfl Try.sizeOf45 rfl rfl (one1 rfl (one1 rfl one0)) ?_
      intro w788 hI789 x790
      have hC792 := hI789.freezeRow 0 rfl
      have hI791 := hI789.erase 0
      refine s_as rfl rfl ?_
      refine Reg.nil ?_
      obtain ⟨j793, h794, h⟩ := bnd h
      refine cw_sub (L := [(2, _), (5, _), (6, _), (7, _), (8, _), (9, _)]) (Sub.cons rfl (Sub.cons rfl (Sub.cons rfl (Sub.cons rfl (Sub.cons rfl (Sub.cons rfl (Sub.nil _))))))) ?_
      refine cw_seqD 6 (ι := Bool) (fun x795 => [(4, Value.bool x795)]) (fun x795 => fun w796 => Hp w [] M [ownR [] SpanE 45 v49 l48] w796 ∧ Adv (mm [ownR [] SpanE 45 v49 l48] M) (mm [ownR [] SpanE 45 v49 l48] M) w788 w796 ∧ x795 = j793) ?_ ?_
      ·skip
       refine cw_regF ?_
       refine s_lda rfl (hC768.adv ((Adv.of_ext e770).trans ((Adv.of_ext e773).trans ((Adv.of_ext e779).trans (x787.trans (x790.trans (Hp.eraseA (σ := [rowR 45 b784 [Value.int .i64 z775.lo, Value.int .i64 z775.hi], ownR [] SpanE 45 v49 l48]) 0))))))).cells Try.isAgg45 rfl Try.sizeOf45 rfl ?_
       refine s_lda rfl hC792.cells Try.isAgg45 rfl Try.sizeOf45 rfl ?_
       refine s_eqS (Span_eq (Span.mk z647.lo z647.hi) (Span.mk z775.lo z775.hi)) Try.eqGuardType45 rfl rfl rfl ?_
       refine s_mv rfl rfl ?_
       refine Reg.gsplit (t := 36) rfl (fun hg799 => ?_) (fun hg799 => ?_)
       ·replace h794 := cdT hg799 h794
        refine Reg.take rfl rfl ?_
        refine s_mv rfl rfl ?_
        refine Reg.take rfl rfl ?_
        refine s_mv rfl rfl ?_
        refine Reg.take rfl rfl ?_
        refine s_eql rfl rfl rfl ?_
        refine s_pkT rfl rfl rfl ?_
        refine s_mv rfl rfl ?_
        refine Reg.gsplit (t := 41) rfl (fun hg800 => ?_) (fun hg800 => ?_)
        ·replace h794 := cdT hg800 h794
         refine Reg.take rfl rfl ?_
         refine s_lda rfl (hC39.adv ((Adv.of_ext e42).trans ((Hp.addLitA (σ := []) SpanE 45 k45).trans (x52.trans ((Adv.of_ext e54).trans (x643.trans ((Adv.of_ext e645).trans ((Adv.of_ext e651).trans ((Adv.of_ext e657).trans ((Adv.of_ext e660).trans ((Adv.of_ext e758).trans ((Adv.of_ext e761).trans (x766.trans ((Hp.eraseA (σ := [rowR 45 b640 [Value.int .i64 z647.lo, Value.int .i64 z647.hi], ownR [] SpanE 45 v49 l48]) 0).trans ((Adv.of_ext e770).trans ((Adv.of_ext e773).trans ((Adv.of_ext e779).trans (x787.trans (x790.trans (Hp.eraseA (σ := [rowR 45 b784 [Value.int .i64 z775.lo, Value.int .i64 z775.hi], ownR [] SpanE 45 v49 l48]) 0)))))))))))))))))))).cells Try.isAgg25 rfl Try.sizeOf25 rfl ?_
         refine Reg.take rfl rfl ?_
         refine s_lda rfl (hC6.adv (hA12.trans ((Adv.of_ext e23).trans (x34.trans (x37.trans ((Hp.eraseA (σ := [rowR 25 b31 [Value.int .i64 z20.traits, v25, v27, Value.int .i64 z20.need]]) 0).trans ((Adv.of_ext e42).trans ((Hp.addLitA (σ := []) SpanE 45 k45).trans (x52.trans ((Adv.of_ext e54).trans (x643.trans ((Adv.of_ext e645).trans ((Adv.of_ext e651).trans ((Adv.of_ext e657).trans ((Adv.of_ext e660).trans ((Adv.of_ext e758).trans ((Adv.of_ext e761).trans (x766.trans ((Hp.eraseA (σ := [rowR 45 b640 [Value.int .i64 z647.lo, Value.int .i64 z647.hi], ownR [] SpanE 45 v49 l48]) 0).trans ((Adv.of_ext e770).trans ((Adv.of_ext e773).trans ((Adv.of_ext e779).trans (x787.trans (x790.trans (Hp.eraseA (σ := [rowR 45 b784 [Value.int .i64 z775.lo, Value.int .i64 z775.hi], ownR [] SpanE 45 v49 l48]) 0))))))))))))))))))))))))).cells Try.isAgg25 rfl Try.sizeOf25 rfl ?_
         refine Reg.take rfl rfl ?_
         obtain ⟨z801, hz802, h794⟩ := bnd h794
         refine s_call rfl Try.call21 rfl ?_
         refine (C_ref06_Same hI791.mlt r24 (hf26.adv (x34.trans (x37.trans ((Hp.eraseA (σ := [rowR 25 b31 [Value.int .i64 z20.traits, v25, v27, Value.int .i64 z20.need]]) 0).trans ((Adv.of_ext e42).trans ((Hp.addLitA (σ := []) SpanE 45 k45).trans (x52.trans ((Adv.of_ext e54).trans (x643.trans ((Adv.of_ext e645).trans ((Adv.of_ext e651).trans ((Adv.of_ext e657).trans ((Adv.of_ext e660).trans ((Adv.of_ext e758).trans ((Adv.of_ext e761).trans (x766.trans ((Hp.eraseA (σ := [rowR 45 b640 [Value.int .i64 z647.lo, Value.int .i64 z647.hi], ownR [] SpanE 45 v49 l48]) 0).trans ((Adv.of_ext e770).trans ((Adv.of_ext e773).trans ((Adv.of_ext e779).trans (x787.trans (x790.trans (Hp.eraseA (σ := [rowR 45 b784 [Value.int .i64 z775.lo, Value.int .i64 z775.hi], ownR [] SpanE 45 v49 l48]) 0))))))))))))))))))))))) (hf28.adv (x34.trans (x37.trans ((Hp.eraseA (σ := [rowR 25 b31 [Value.int .i64 z20.traits, v25, v27, Value.int .i64 z20.need]]) 0).trans ((Adv.of_ext e42).trans ((Hp.addLitA (σ := []) SpanE 45 k45).trans (x52.trans ((Adv.of_ext e54).trans (x643.trans ((Adv.of_ext e645).trans ((Adv.of_ext e651).trans ((Adv.of_ext e657).trans ((Adv.of_ext e660).trans ((Adv.of_ext e758).trans ((Adv.of_ext e761).trans (x766.trans ((Hp.eraseA (σ := [rowR 45 b640 [Value.int .i64 z647.lo, Value.int .i64 z647.hi], ownR [] SpanE 45 v49 l48]) 0).trans ((Adv.of_ext e770).trans ((Adv.of_ext e773).trans ((Adv.of_ext e779).trans (x787.trans (x790.trans (Hp.eraseA (σ := [rowR 45 b784 [Value.int .i64 z775.lo, Value.int .i64 z775.hi], ownR [] SpanE 45 v49 l48]) 0))))))))))))))))))))))) r29 f_m_0 (f_m_1.adv hI791.adv) (f_m_2.adv hI791.adv) f_m_3 hz802).mono ?_
         rintro _ w803 ⟨rfl, e804⟩
         refine ⟨_, rfl, ?_⟩
         have hI805 := hI791.ext e804
         refine s_pkT rfl rfl rfl ?_
         refine s_as rfl rfl ?_
         refine Reg.nil ?_
         obtain rfl := Option.some.inj h794
         refine ⟨rfl, z801, ⟨hI805, (Adv.of_ext e804), rfl⟩, Sub.cons rfl (Sub.nil _)⟩
        ·replace h794 := cdF hg800 h794
         refine Reg.pass rfl rfl rfl rfl ?_
         refine Reg.pass rfl rfl rfl rfl ?_
         refine Reg.pass rfl rfl rfl rfl ?_
         refine s_pkF rfl rfl rfl ?_
         refine s_as rfl rfl ?_
         refine Reg.nil ?_
         obtain rfl := Option.some.inj h794
         refine ⟨rfl, false, ⟨hI791, (Adv.refl _ _), rfl⟩, Sub.cons rfl (Sub.nil _)⟩
       ·replace h794 := cdF hg799 h794
        refine Reg.pass rfl rfl rfl rfl ?_
        refine Reg.pass rfl rfl rfl rfl ?_
        refine Reg.pass rfl rfl rfl rfl ?_
        refine s_pkF rfl rfl rfl ?_
        refine s_mv rfl rfl ?_
        refine Reg.pass rfl rfl rfl rfl ?_
        refine Reg.pass rfl rfl rfl rfl ?_
        refine Reg.pass rfl rfl rfl rfl ?_
        refine s_pkF rfl rfl rfl ?_
        refine s_as rfl rfl ?_
        refine Reg.nil ?_
        obtain rfl := Option.some.inj h794
        refine ⟨rfl, false, ⟨hI791, (Adv.refl _ _), rfl⟩, Sub.cons rfl (Sub.nil _)⟩
      ·skip
       rintro x795 w796 ⟨hI797, hA798, rfl⟩
       refine cw_ret ?_
       obtain rfl := Option.some.inj h
       refine fin1 Try.results4 rfl ?_
       exact ⟨rfl, hI797.kp⟩
   ·skip
    refine ⟨_, [], rfl, RSub.nil, rfl, nodupB_spec rfl, ?_⟩
    simp only [relOut]
    refine y_al hI43 Try.zeroValue45 rfl rfl ?_
    intro b806 w807 hI808 x809
    refine Reg.nil ⟨rfl, .inr hI808.kp, rfl, ?_⟩
    intro w810 e811
    have hI812 := hI808.ext e811
    refine SeaWalk.step [3] (by kernel_rfl) (AllL.cons ?_ (AllL.nil))
    refine ⟨_, [(21, _)], rfl, RSub.cons rfl rfl (RSub.nil), rfl, nodupB_spec rfl, ?_⟩
    simp only [relOut]
    intro u813 k814 s815
    have hI816 := hI812.addLit SpanE 45 k814
    obtain ⟨l817, hl817, h⟩ := bnd h
    obtain ⟨hbl817, el817⟩ := appo_out hl817
    refine y_app 0 sl43 hI816 rfl rfl rfl (f_x_0.adv (hI38.adv.trans ((Adv.of_ext e42).trans (x809.trans ((Adv.of_ext e811).trans (Hp.addLitA (σ := [rowR 45 b806 [Value.int .i64 0, Value.int .i64 0]]) SpanE 45 k814)))))) hbl817 rfl ?_
    rw [← el817]
    intro v818 w819 hI820 x821
    refine Reg.nilS (L0 := [(1, _), (2, _), (5, _), (6, _), (20, _), (23, _)]) (Sub.cons rfl (Sub.cons rfl (Sub.cons rfl (Sub.cons rfl (Sub.cons rfl (Sub.cons rfl (Sub.nil _))))))) ⟨rfl, .inr hI820.kp, rfl, ?_⟩
    intro w822 e823
    have hI824 := hI820.ext e823
    refine SeaWalk.step [4] (by kernel_rfl) (AllL.cons ?_ (AllL.nil))
    refine ⟨_, [], rfl, RSub.nil, rfl, nodupB_spec rfl, ?_⟩
    simp only [relOut]
    obtain ⟨⟨z825, z826⟩, hz827, h⟩ := bnd h
    refine s_call rfl Try.call22 rfl ?_
    refine (C_score_Between (hI824.sel [1] rfl).mlt r24 ((hf26.adv (x34.trans (x37.trans ((Hp.eraseA (σ := [rowR 25 b31 [Value.int .i64 z20.traits, v25, v27, Value.int .i64 z20.need]]) 0).trans ((Adv.of_ext e42).trans (x809.trans ((Adv.of_ext e811).trans ((Hp.addLitA (σ := [rowR 45 b806 [Value.int .i64 0, Value.int .i64 0]]) SpanE 45 k814).trans (x821.trans (Adv.of_ext e823)))))))))).adv (Hp.selA (σ := [ownR [] SpanE 45 v818 l817, rowR 45 b806 [Value.int .i64 0, Value.int .i64 0]]) [1])) ((hf28.adv (x34.trans (x37.trans ((Hp.eraseA (σ := [rowR 25 b31 [Value.int .i64 z20.traits, v25, v27, Value.int .i64 z20.need]]) 0).trans ((Adv.of_ext e42).trans (x809.trans ((Adv.of_ext e811).trans ((Hp.addLitA (σ := [rowR 45 b806 [Value.int .i64 0, Value.int .i64 0]]) SpanE 45 k814).trans (x821.trans (Adv.of_ext e823)))))))))).adv (Hp.selA (σ := [ownR [] SpanE 45 v818 l817, rowR 45 b806 [Value.int .i64 0, Value.int .i64 0]]) [1])) r29 (hI824.lendRd [1] 0 rfl rfl) hz827).mono ?_
    rintro _ w828 ⟨rfl, r830, r831, r832, e829⟩
    refine ⟨_, rfl, ?_⟩
    have hI833 := hI824.ext e829
    refine Reg.nil ⟨rfl, .inr hI833.kp, rfl, ?_⟩
    intro w834 e835
    have hI836 := hI833.ext e835
    refine SeaWalk.step [5] (by kernel_rfl) (AllL.cons ?_ (AllL.nil))
    refine ⟨_, [], rfl, RSub.nil, rfl, nodupB_spec rfl, ?_⟩
    simp only [relOut]
    refine s_mv rfl rfl ?_
    refine Reg.nil ⟨rfl, .inr hI836.kp, rfl, ?_⟩
    intro w837 e838
    have hI839 := hI836.ext e838
    refine SeaWalk.step [6, 7] (by kernel_rfl) (AllL.cons ?_ (AllL.cons ?_ (AllL.nil)))
    ·skip
     refine ⟨_, [], rfl, RSub.nil, rfl, nodupB_spec rfl, ?_⟩
     simp only [relOut]
     refine s_xt rfl rfl rfl ?_
     refine Reg.nil ⟨rfl, .inr hI839.kp, rfl, ?_⟩
     intro w840 e841
     have hI842 := hI839.ext e841
     refine SeaWalk.step [7, 9] (by kernel_rfl) (AllL.cons ?_ (AllL.cons ?_ (AllL.nil)))
     ·skip
      refine ⟨_, [], rfl, RSub.nil, rfl, nodupB_spec rfl, ?_⟩
      simp only [relOut]
      refine s_xt rfl rfl rfl ?_
      refine Reg.nil ⟨rfl, .inr hI842.kp, rfl, ?_⟩
      intro w843 e844
      have hI845 := hI842.ext e844
      refine SeaWalk.step [9] (by kernel_rfl) (AllL.cons ?_ (AllL.nil))
      refine ⟨_, [], rfl, RSub.nil, rfl, nodupB_spec rfl, ?_⟩
      simp only [relOut]
      have hI846 := hI38.join hI845
      refine y_st 1 hI846 rfl rfl rfl rfl Try.sizeOf45 rfl rfl (one1 rfl (one1 rfl one0)) ?_
      intro w847 hI848 x849
      have hC851 := hI848.freezeRow 1 rfl
      have hI850 := hI848.erase 1
      refine Reg.nil ⟨rfl, .inl rfl, rfl, ?_⟩
      intro w852 e853
      have hI854 := hI850.ext e853
      refine SeaWalk.step [10] (by kernel_rfl) (AllL.cons ?_ (AllL.nil))
      refine ⟨_, [], rfl, RSub.nil, rfl, nodupB_spec rfl, ?_⟩
      simp only [relOut]
      refine s_as rfl rfl ?_
      refine Reg.nil ⟨rfl, .inl rfl, rfl, ?_⟩
      intro w855 e856
      have hI857 := hI854.ext e856
      refine SeaWalk.done ?_
      refine cw_seq (cw_regF ?_)
      refine s_lda rfl (hC6.adv (hA12.trans ((Adv.of_ext e23).trans (x34.trans (x37.trans ((Hp.eraseA (σ := [rowR 25 b31 [Value.int .i64 z20.traits, v25, v27, Value.int .i64 z20.need]]) 0).trans ((Adv.of_ext e42).trans (x809.trans ((Adv.of_ext e811).trans ((Hp.addLitA (σ := [rowR 45 b806 [Value.int .i64 0, Value.int .i64 0]]) SpanE 45 k814).trans (x821.trans ((Adv.of_ext e823).trans ((Adv.of_ext e829).trans ((Adv.of_ext e835).trans ((Adv.of_ext e838).trans ((Adv.of_ext e841).trans ((Adv.of_ext e844).trans (x849.trans ((Hp.eraseA (σ := [ownR [] SpanE 45 v818 l817, rowR 45 b806 [Value.int .i64 z825.lo, Value.int .i64 z825.hi]]) 1).trans ((Adv.of_ext e853).trans (Adv.of_ext e856))))))))))))))))))))).cells Try.isAgg25 rfl Try.sizeOf25 rfl ?_
      refine s_mv rfl rfl ?_
      obtain ⟨⟨z858, z859⟩, hz860, h⟩ := bnd h
      refine s_call rfl Try.call23 rfl ?_
      refine (C_ref06_Between hI857.mlt f_m_0 (f_m_1.adv hI857.adv) (f_m_2.adv hI857.adv) f_m_3 (f_x_0.adv hI857.adv) hz860).mono ?_
      rintro _ w861 ⟨rfl, r863, r864, r865, e862⟩
      refine ⟨_, rfl, ?_⟩
      have hI866 := hI857.ext e862
      refine s_mv rfl rfl ?_
      refine s_xt rfl rfl rfl ?_
      refine s_xt rfl rfl rfl ?_
      refine y_al hI866 Try.zeroValue45 rfl rfl ?_
      intro b867 w868 hI869 x870
      refine y_st 0 hI869 rfl rfl rfl rfl Try.sizeOf45 rfl rfl (one1 rfl (one1 rfl one0)) ?_
      intro w871 hI872 x873
      have hC875 := hI872.freezeRow 0 rfl
      have hI874 := hI872.erase 0
      refine s_as rfl rfl ?_
      refine Reg.nil ?_
      obtain ⟨j876, h877, h⟩ := bnd h
      refine cw_sub (L := [(2, _), (5, _), (6, _), (7, _), (8, _), (9, _)]) (Sub.cons rfl (Sub.cons rfl (Sub.cons rfl (Sub.cons rfl (Sub.cons rfl (Sub.cons rfl (Sub.nil _))))))) ?_
      refine cw_seqD 6 (ι := Bool) (fun x878 => [(4, Value.bool x878)]) (fun x878 => fun w879 => Hp w [] M [ownR [] SpanE 45 v818 l817] w879 ∧ Adv (mm [ownR [] SpanE 45 v818 l817] M) (mm [ownR [] SpanE 45 v818 l817] M) w871 w879 ∧ x878 = j876) ?_ ?_
      ·skip
       refine cw_regF ?_
       refine s_lda rfl (hC851.adv ((Adv.of_ext e853).trans ((Adv.of_ext e856).trans ((Adv.of_ext e862).trans (x870.trans (x873.trans (Hp.eraseA (σ := [rowR 45 b867 [Value.int .i64 z858.lo, Value.int .i64 z858.hi], ownR [] SpanE 45 v818 l817]) 0))))))).cells Try.isAgg45 rfl Try.sizeOf45 rfl ?_
       refine s_lda rfl hC875.cells Try.isAgg45 rfl Try.sizeOf45 rfl ?_
       refine s_eqS (Span_eq (Span.mk z825.lo z825.hi) (Span.mk z858.lo z858.hi)) Try.eqGuardType45 rfl rfl rfl ?_
       refine s_mv rfl rfl ?_
       refine Reg.gsplit (t := 36) rfl (fun hg882 => ?_) (fun hg882 => ?_)
       ·replace h877 := cdT hg882 h877
        refine Reg.take rfl rfl ?_
        refine s_mv rfl rfl ?_
        refine Reg.take rfl rfl ?_
        refine s_mv rfl rfl ?_
        refine Reg.take rfl rfl ?_
        refine s_eql rfl rfl rfl ?_
        refine s_pkT rfl rfl rfl ?_
        refine s_mv rfl rfl ?_
        refine Reg.gsplit (t := 41) rfl (fun hg883 => ?_) (fun hg883 => ?_)
        ·replace h877 := cdT hg883 h877
         refine Reg.take rfl rfl ?_
         refine s_lda rfl (hC39.adv ((Adv.of_ext e42).trans (x809.trans ((Adv.of_ext e811).trans ((Hp.addLitA (σ := [rowR 45 b806 [Value.int .i64 0, Value.int .i64 0]]) SpanE 45 k814).trans (x821.trans ((Adv.of_ext e823).trans ((Adv.of_ext e829).trans ((Adv.of_ext e835).trans ((Adv.of_ext e838).trans ((Adv.of_ext e841).trans ((Adv.of_ext e844).trans (x849.trans ((Hp.eraseA (σ := [ownR [] SpanE 45 v818 l817, rowR 45 b806 [Value.int .i64 z825.lo, Value.int .i64 z825.hi]]) 1).trans ((Adv.of_ext e853).trans ((Adv.of_ext e856).trans ((Adv.of_ext e862).trans (x870.trans (x873.trans (Hp.eraseA (σ := [rowR 45 b867 [Value.int .i64 z858.lo, Value.int .i64 z858.hi], ownR [] SpanE 45 v818 l817]) 0)))))))))))))))))))).cells Try.isAgg25 rfl Try.sizeOf25 rfl ?_
         refine Reg.take rfl rfl ?_
         refine s_lda rfl (hC6.adv (hA12.trans ((Adv.of_ext e23).trans (x34.trans (x37.trans ((Hp.eraseA (σ := [rowR 25 b31 [Value.int .i64 z20.traits, v25, v27, Value.int .i64 z20.need]]) 0).trans ((Adv.of_ext e42).trans (x809.trans ((Adv.of_ext e811).trans ((Hp.addLitA (σ := [rowR 45 b806 [Value.int .i64 0, Value.int .i64 0]]) SpanE 45 k814).trans (x821.trans ((Adv.of_ext e823).trans ((Adv.of_ext e829).trans ((Adv.of_ext e835).trans ((Adv.of_ext e838).trans ((Adv.of_ext e841).trans ((Adv.of_ext e844).trans (x849.trans ((Hp.eraseA (σ := [ownR [] SpanE 45 v818 l817, rowR 45 b806 [Value.int .i64 z825.lo, Value.int .i64 z825.hi]]) 1).trans ((Adv.of_ext e853).trans ((Adv.of_ext e856).trans ((Adv.of_ext e862).trans (x870.trans (x873.trans (Hp.eraseA (σ := [rowR 45 b867 [Value.int .i64 z858.lo, Value.int .i64 z858.hi], ownR [] SpanE 45 v818 l817]) 0))))))))))))))))))))))))).cells Try.isAgg25 rfl Try.sizeOf25 rfl ?_
         refine Reg.take rfl rfl ?_
         obtain ⟨z884, hz885, h877⟩ := bnd h877
         refine s_call rfl Try.call21 rfl ?_
         refine (C_ref06_Same hI874.mlt r24 (hf26.adv (x34.trans (x37.trans ((Hp.eraseA (σ := [rowR 25 b31 [Value.int .i64 z20.traits, v25, v27, Value.int .i64 z20.need]]) 0).trans ((Adv.of_ext e42).trans (x809.trans ((Adv.of_ext e811).trans ((Hp.addLitA (σ := [rowR 45 b806 [Value.int .i64 0, Value.int .i64 0]]) SpanE 45 k814).trans (x821.trans ((Adv.of_ext e823).trans ((Adv.of_ext e829).trans ((Adv.of_ext e835).trans ((Adv.of_ext e838).trans ((Adv.of_ext e841).trans ((Adv.of_ext e844).trans (x849.trans ((Hp.eraseA (σ := [ownR [] SpanE 45 v818 l817, rowR 45 b806 [Value.int .i64 z825.lo, Value.int .i64 z825.hi]]) 1).trans ((Adv.of_ext e853).trans ((Adv.of_ext e856).trans ((Adv.of_ext e862).trans (x870.trans (x873.trans (Hp.eraseA (σ := [rowR 45 b867 [Value.int .i64 z858.lo, Value.int .i64 z858.hi], ownR [] SpanE 45 v818 l817]) 0))))))))))))))))))))))) (hf28.adv (x34.trans (x37.trans ((Hp.eraseA (σ := [rowR 25 b31 [Value.int .i64 z20.traits, v25, v27, Value.int .i64 z20.need]]) 0).trans ((Adv.of_ext e42).trans (x809.trans ((Adv.of_ext e811).trans ((Hp.addLitA (σ := [rowR 45 b806 [Value.int .i64 0, Value.int .i64 0]]) SpanE 45 k814).trans (x821.trans ((Adv.of_ext e823).trans ((Adv.of_ext e829).trans ((Adv.of_ext e835).trans ((Adv.of_ext e838).trans ((Adv.of_ext e841).trans ((Adv.of_ext e844).trans (x849.trans ((Hp.eraseA (σ := [ownR [] SpanE 45 v818 l817, rowR 45 b806 [Value.int .i64 z825.lo, Value.int .i64 z825.hi]]) 1).trans ((Adv.of_ext e853).trans ((Adv.of_ext e856).trans ((Adv.of_ext e862).trans (x870.trans (x873.trans (Hp.eraseA (σ := [rowR 45 b867 [Value.int .i64 z858.lo, Value.int .i64 z858.hi], ownR [] SpanE 45 v818 l817]) 0))))))))))))))))))))))) r29 f_m_0 (f_m_1.adv hI874.adv) (f_m_2.adv hI874.adv) f_m_3 hz885).mono ?_
         rintro _ w886 ⟨rfl, e887⟩
         refine ⟨_, rfl, ?_⟩
         have hI888 := hI874.ext e887
         refine s_pkT rfl rfl rfl ?_
         refine s_as rfl rfl ?_
         refine Reg.nil ?_
         obtain rfl := Option.some.inj h877
         refine ⟨rfl, z884, ⟨hI888, (Adv.of_ext e887), rfl⟩, Sub.cons rfl (Sub.nil _)⟩
        ·replace h877 := cdF hg883 h877
         refine Reg.pass rfl rfl rfl rfl ?_
         refine Reg.pass rfl rfl rfl rfl ?_
         refine Reg.pass rfl rfl rfl rfl ?_
         refine s_pkF rfl rfl rfl ?_
         refine s_as rfl rfl ?_
         refine Reg.nil ?_
         obtain rfl := Option.some.inj h877
         refine ⟨rfl, false, ⟨hI874, (Adv.refl _ _), rfl⟩, Sub.cons rfl (Sub.nil _)⟩
       ·replace h877 := cdF hg882 h877
        refine Reg.pass rfl rfl rfl rfl ?_
        refine Reg.pass rfl rfl rfl rfl ?_
        refine Reg.pass rfl rfl rfl rfl ?_
        refine s_pkF rfl rfl rfl ?_
        refine s_mv rfl rfl ?_
        refine Reg.pass rfl rfl rfl rfl ?_
        refine Reg.pass rfl rfl rfl rfl ?_
        refine Reg.pass rfl rfl rfl rfl ?_
        refine s_pkF rfl rfl rfl ?_
        refine s_as rfl rfl ?_
        refine Reg.nil ?_
        obtain rfl := Option.some.inj h877
        refine ⟨rfl, false, ⟨hI874, (Adv.refl _ _), rfl⟩, Sub.cons rfl (Sub.nil _)⟩
      ·skip
       rintro x878 w879 ⟨hI880, hA881, rfl⟩
       refine cw_ret ?_
       obtain rfl := Option.some.inj h
       refine fin1 Try.results4 rfl ?_
       exact ⟨rfl, hI880.kp⟩
     ·skip
      refine ⟨_, [], rfl, RSub.nil, rfl, nodupB_spec rfl, ?_⟩
      simp only [relOut]
      have hI889 := hI38.join hI842
      refine y_st 1 hI889 rfl rfl rfl rfl Try.sizeOf45 rfl rfl (one1 rfl (one1 rfl one0)) ?_
      intro w890 hI891 x892
      have hC894 := hI891.freezeRow 1 rfl
      have hI893 := hI891.erase 1
      refine Reg.nil ⟨rfl, .inl rfl, rfl, ?_⟩
      intro w895 e896
      have hI897 := hI893.ext e896
      refine SeaWalk.step [7] (by kernel_rfl) (AllL.cons ?_ (AllL.nil))
      refine ⟨_, [], rfl, RSub.nil, rfl, nodupB_spec rfl, ?_⟩
      simp only [relOut]
      refine s_xt rfl rfl rfl ?_
      refine Reg.nil ⟨rfl, .inl rfl, rfl, ?_⟩
      intro w898 e899
      have hI900 := hI897.ext e899
      refine SeaWalk.step [10] (by kernel_rfl) (AllL.cons ?_ (AllL.nil))
      refine ⟨_, [], rfl, RSub.nil, rfl, nodupB_spec rfl, ?_⟩
      simp only [relOut]
      refine s_as rfl rfl ?_
      refine Reg.nil ⟨rfl, .inl rfl, rfl, ?_⟩
      intro w901 e902
      have hI903 := hI900.ext e902
      refine SeaWalk.done ?_
      refine cw_seq (cw_regF ?_)
      refine s_lda rfl (hC6.adv (hA12.trans ((Adv.of_ext e23).trans (x34.trans (x37.trans ((Hp.eraseA (σ := [rowR 25 b31 [Value.int .i64 z20.traits, v25, v27, Value.int .i64 z20.need]]) 0).trans ((Adv.of_ext e42).trans (x809.trans ((Adv.of_ext e811).trans ((Hp.addLitA (σ := [rowR 45 b806 [Value.int .i64 0, Value.int .i64 0]]) SpanE 45 k814).trans (x821.trans ((Adv.of_ext e823).trans ((Adv.of_ext e829).trans ((Adv.of_ext e835).trans ((Adv.of_ext e838).trans ((Adv.of_ext e841).trans (x892.trans ((Hp.eraseA (σ := [ownR [] SpanE 45 v818 l817, rowR 45 b806 [Value.int .i64 z825.lo, Value.int .i64 z825.hi]]) 1).trans ((Adv.of_ext e896).trans ((Adv.of_ext e899).trans (Adv.of_ext e902))))))))))))))))))))).cells Try.isAgg25 rfl Try.sizeOf25 rfl ?_
      refine s_mv rfl rfl ?_
      obtain ⟨⟨z904, z905⟩, hz906, h⟩ := bnd h
      refine s_call rfl Try.call23 rfl ?_
      refine (C_ref06_Between hI903.mlt f_m_0 (f_m_1.adv hI903.adv) (f_m_2.adv hI903.adv) f_m_3 (f_x_0.adv hI903.adv) hz906).mono ?_
      rintro _ w907 ⟨rfl, r909, r910, r911, e908⟩
      refine ⟨_, rfl, ?_⟩
      have hI912 := hI903.ext e908
      refine s_mv rfl rfl ?_
      refine s_xt rfl rfl rfl ?_
      refine s_xt rfl rfl rfl ?_
      refine y_al hI912 Try.zeroValue45 rfl rfl ?_
      intro b913 w914 hI915 x916
      refine y_st 0 hI915 rfl rfl rfl rfl Try.sizeOf45 rfl rfl (one1 rfl (one1 rfl one0)) ?_
      intro w917 hI918 x919
      have hC921 := hI918.freezeRow 0 rfl
      have hI920 := hI918.erase 0
      refine s_as rfl rfl ?_
      refine Reg.nil ?_
      obtain ⟨j922, h923, h⟩ := bnd h
      refine cw_sub (L := [(2, _), (5, _), (6, _), (7, _), (8, _), (9, _)]) (Sub.cons rfl (Sub.cons rfl (Sub.cons rfl (Sub.cons rfl (Sub.cons rfl (Sub.cons rfl (Sub.nil _))))))) ?_
      refine cw_seqD 6 (ι := Bool) (fun x924 => [(4, Value.bool x924)]) (fun x924 => fun w925 => Hp w [] M [ownR [] SpanE 45 v818 l817] w925 ∧ Adv (mm [ownR [] SpanE 45 v818 l817] M) (mm [ownR [] SpanE 45 v818 l817] M) w917 w925 ∧ x924 = j922) ?_ ?_
      ·skip
       refine cw_regF ?_
       refine s_lda rfl (hC894.adv ((Adv.of_ext e896).trans ((Adv.of_ext e899).trans ((Adv.of_ext e902).trans ((Adv.of_ext e908).trans (x916.trans (x919.trans (Hp.eraseA (σ := [rowR 45 b913 [Value.int .i64 z904.lo, Value.int .i64 z904.hi], ownR [] SpanE 45 v818 l817]) 0)))))))).cells Try.isAgg45 rfl Try.sizeOf45 rfl ?_
       refine s_lda rfl hC921.cells Try.isAgg45 rfl Try.sizeOf45 rfl ?_
       refine s_eqS (Span_eq (Span.mk z825.lo z825.hi) (Span.mk z904.lo z904.hi)) Try.eqGuardType45 rfl rfl rfl ?_
       refine s_mv rfl rfl ?_
       refine Reg.gsplit (t := 36) rfl (fun hg928 => ?_) (fun hg928 => ?_)
       ·replace h923 := cdT hg928 h923
        refine Reg.take rfl rfl ?_
        refine s_mv rfl rfl ?_
        refine Reg.take rfl rfl ?_
        refine s_mv rfl rfl ?_
        refine Reg.take rfl rfl ?_
        refine s_eql rfl rfl rfl ?_
        refine s_pkT rfl rfl rfl ?_
        refine s_mv rfl rfl ?_
        refine Reg.gsplit (t := 41) rfl (fun hg929 => ?_) (fun hg929 => ?_)
        ·replace h923 := cdT hg929 h923
         refine Reg.take rfl rfl ?_
         refine s_lda rfl (hC39.adv ((Adv.of_ext e42).trans (x809.trans ((Adv.of_ext e811).trans ((Hp.addLitA (σ := [rowR 45 b806 [Value.int .i64 0, Value.int .i64 0]]) SpanE 45 k814).trans (x821.trans ((Adv.of_ext e823).trans ((Adv.of_ext e829).trans ((Adv.of_ext e835).trans ((Adv.of_ext e838).trans ((Adv.of_ext e841).trans (x892.trans ((Hp.eraseA (σ := [ownR [] SpanE 45 v818 l817, rowR 45 b806 [Value.int .i64 z825.lo, Value.int .i64 z825.hi]]) 1).trans ((Adv.of_ext e896).trans ((Adv.of_ext e899).trans ((Adv.of_ext e902).trans ((Adv.of_ext e908).trans (x916.trans (x919.trans (Hp.eraseA (σ := [rowR 45 b913 [Value.int .i64 z904.lo, Value.int .i64 z904.hi], ownR [] SpanE 45 v818 l817]) 0)))))))))))))))))))).cells Try.isAgg25 rfl Try.sizeOf25 rfl ?_
         refine Reg.take rfl rfl ?_
         refine s_lda rfl (hC6.adv (hA12.trans ((Adv.of_ext e23).trans (x34.trans (x37.trans ((Hp.eraseA (σ := [rowR 25 b31 [Value.int .i64 z20.traits, v25, v27, Value.int .i64 z20.need]]) 0).trans ((Adv.of_ext e42).trans (x809.trans ((Adv.of_ext e811).trans ((Hp.addLitA (σ := [rowR 45 b806 [Value.int .i64 0, Value.int .i64 0]]) SpanE 45 k814).trans (x821.trans ((Adv.of_ext e823).trans ((Adv.of_ext e829).trans ((Adv.of_ext e835).trans ((Adv.of_ext e838).trans ((Adv.of_ext e841).trans (x892.trans ((Hp.eraseA (σ := [ownR [] SpanE 45 v818 l817, rowR 45 b806 [Value.int .i64 z825.lo, Value.int .i64 z825.hi]]) 1).trans ((Adv.of_ext e896).trans ((Adv.of_ext e899).trans ((Adv.of_ext e902).trans ((Adv.of_ext e908).trans (x916.trans (x919.trans (Hp.eraseA (σ := [rowR 45 b913 [Value.int .i64 z904.lo, Value.int .i64 z904.hi], ownR [] SpanE 45 v818 l817]) 0))))))))))))))))))))))))).cells Try.isAgg25 rfl Try.sizeOf25 rfl ?_
         refine Reg.take rfl rfl ?_
         obtain ⟨z930, hz931, h923⟩ := bnd h923
         refine s_call rfl Try.call21 rfl ?_
         refine (C_ref06_Same hI920.mlt r24 (hf26.adv (x34.trans (x37.trans ((Hp.eraseA (σ := [rowR 25 b31 [Value.int .i64 z20.traits, v25, v27, Value.int .i64 z20.need]]) 0).trans ((Adv.of_ext e42).trans (x809.trans ((Adv.of_ext e811).trans ((Hp.addLitA (σ := [rowR 45 b806 [Value.int .i64 0, Value.int .i64 0]]) SpanE 45 k814).trans (x821.trans ((Adv.of_ext e823).trans ((Adv.of_ext e829).trans ((Adv.of_ext e835).trans ((Adv.of_ext e838).trans ((Adv.of_ext e841).trans (x892.trans ((Hp.eraseA (σ := [ownR [] SpanE 45 v818 l817, rowR 45 b806 [Value.int .i64 z825.lo, Value.int .i64 z825.hi]]) 1).trans ((Adv.of_ext e896).trans ((Adv.of_ext e899).trans ((Adv.of_ext e902).trans ((Adv.of_ext e908).trans (x916.trans (x919.trans (Hp.eraseA (σ := [rowR 45 b913 [Value.int .i64 z904.lo, Value.int .i64 z904.hi], ownR [] SpanE 45 v818 l817]) 0))))))))))))))))))))))) (hf28.adv (x34.trans (x37.trans ((Hp.eraseA (σ := [rowR 25 b31 [Value.int .i64 z20.traits, v25, v27, Value.int .i64 z20.need]]) 0).trans ((Adv.of_ext e42).trans (x809.trans ((Adv.of_ext e811).trans ((Hp.addLitA (σ := [rowR 45 b806 [Value.int .i64 0, Value.int .i64 0]]) SpanE 45 k814).trans (x821.trans ((Adv.of_ext e823).trans ((Adv.of_ext e829).trans ((Adv.of_ext e835).trans ((Adv.of_ext e838).trans ((Adv.of_ext e841).trans (x892.trans ((Hp.eraseA (σ := [ownR [] SpanE 45 v818 l817, rowR 45 b806 [Value.int .i64 z825.lo, Value.int .i64 z825.hi]]) 1).trans ((Adv.of_ext e896).trans ((Adv.of_ext e899).trans ((Adv.of_ext e902).trans ((Adv.of_ext e908).trans (x916.trans (x919.trans (Hp.eraseA (σ := [rowR 45 b913 [Value.int .i64 z904.lo, Value.int .i64 z904.hi], ownR [] SpanE 45 v818 l817]) 0))))))))))))))))))))))) r29 f_m_0 (f_m_1.adv hI920.adv) (f_m_2.adv hI920.adv) f_m_3 hz931).mono ?_
         rintro _ w932 ⟨rfl, e933⟩
         refine ⟨_, rfl, ?_⟩
         have hI934 := hI920.ext e933
         refine s_pkT rfl rfl rfl ?_
         refine s_as rfl rfl ?_
         refine Reg.nil ?_
         obtain rfl := Option.some.inj h923
         refine ⟨rfl, z930, ⟨hI934, (Adv.of_ext e933), rfl⟩, Sub.cons rfl (Sub.nil _)⟩
        ·replace h923 := cdF hg929 h923
         refine Reg.pass rfl rfl rfl rfl ?_
         refine Reg.pass rfl rfl rfl rfl ?_
         refine Reg.pass rfl rfl rfl rfl ?_
         refine s_pkF rfl rfl rfl ?_
         refine s_as rfl rfl ?_
         refine Reg.nil ?_
         obtain rfl := Option.some.inj h923
         refine ⟨rfl, false, ⟨hI920, (Adv.refl _ _), rfl⟩, Sub.cons rfl (Sub.nil _)⟩
       ·replace h923 := cdF hg928 h923
        refine Reg.pass rfl rfl rfl rfl ?_
        refine Reg.pass rfl rfl rfl rfl ?_
        refine Reg.pass rfl rfl rfl rfl ?_
        refine s_pkF rfl rfl rfl ?_
        refine s_mv rfl rfl ?_
        refine Reg.pass rfl rfl rfl rfl ?_
        refine Reg.pass rfl rfl rfl rfl ?_
        refine Reg.pass rfl rfl rfl rfl ?_
        refine s_pkF rfl rfl rfl ?_
        refine s_as rfl rfl ?_
        refine Reg.nil ?_
        obtain rfl := Option.some.inj h923
        refine ⟨rfl, false, ⟨hI920, (Adv.refl _ _), rfl⟩, Sub.cons rfl (Sub.nil _)⟩
      ·skip
       rintro x924 w925 ⟨hI926, hA927, rfl⟩
       refine cw_ret ?_
       obtain rfl := Option.some.inj h
       refine fin1 Try.results4 rfl ?_
       exact ⟨rfl, hI926.kp⟩
    ·skip
     refine ⟨_, [], rfl, RSub.nil, rfl, nodupB_spec rfl, ?_⟩
     simp only [relOut]
     refine s_xt rfl rfl rfl ?_
     refine Reg.nil ⟨rfl, .inr hI839.kp, rfl, ?_⟩
     intro w935 e936
     have hI937 := hI839.ext e936
     refine SeaWalk.step [6] (by kernel_rfl) (AllL.cons ?_ (AllL.nil))
     refine ⟨_, [], rfl, RSub.nil, rfl, nodupB_spec rfl, ?_⟩
     simp only [relOut]
     refine s_xt rfl rfl rfl ?_
     refine Reg.nil ⟨rfl, .inr hI937.kp, rfl, ?_⟩
     intro w938 e939
     have hI940 := hI937.ext e939
     refine SeaWalk.step [9] (by kernel_rfl) (AllL.cons ?_ (AllL.nil))
     refine ⟨_, [], rfl, RSub.nil, rfl, nodupB_spec rfl, ?_⟩
     simp only [relOut]
     have hI941 := hI38.join hI940
     refine y_st 1 hI941 rfl rfl rfl rfl Try.sizeOf45 rfl rfl (one1 rfl (one1 rfl one0)) ?_
     intro w942 hI943 x944
     have hC946 := hI943.freezeRow 1 rfl
     have hI945 := hI943.erase 1
     refine Reg.nil ⟨rfl, .inl rfl, rfl, ?_⟩
     intro w947 e948
     have hI949 := hI945.ext e948
     refine SeaWalk.step [10] (by kernel_rfl) (AllL.cons ?_ (AllL.nil))
     refine ⟨_, [], rfl, RSub.nil, rfl, nodupB_spec rfl, ?_⟩
     simp only [relOut]
     refine s_as rfl rfl ?_
     refine Reg.nil ⟨rfl, .inl rfl, rfl, ?_⟩
     intro w950 e951
     have hI952 := hI949.ext e951
     refine SeaWalk.done ?_
     refine cw_seq (cw_regF ?_)
     refine s_lda rfl (hC6.adv (hA12.trans ((Adv.of_ext e23).trans (x34.trans (x37.trans ((Hp.eraseA (σ := [rowR 25 b31 [Value.int .i64 z20.traits, v25, v27, Value.int .i64 z20.need]]) 0).trans ((Adv.of_ext e42).trans (x809.trans ((Adv.of_ext e811).trans ((Hp.addLitA (σ := [rowR 45 b806 [Value.int .i64 0, Value.int .i64 0]]) SpanE 45 k814).trans (x821.trans ((Adv.of_ext e823).trans ((Adv.of_ext e829).trans ((Adv.of_ext e835).trans ((Adv.of_ext e838).trans ((Adv.of_ext e936).trans ((Adv.of_ext e939).trans (x944.trans ((Hp.eraseA (σ := [ownR [] SpanE 45 v818 l817, rowR 45 b806 [Value.int .i64 z825.lo, Value.int .i64 z825.hi]]) 1).trans ((Adv.of_ext e948).trans (Adv.of_ext e951))))))))))))))))))))).cells Try.isAgg25 rfl Try.sizeOf25 rfl ?_
     refine s_mv rfl rfl ?_
     obtain ⟨⟨z953, z954⟩, hz955, h⟩ := bnd h
     refine s_call rfl Try.call23 rfl ?_
     refine (C_ref06_Between hI952.mlt f_m_0 (f_m_1.adv hI952.adv) (f_m_2.adv hI952.adv) f_m_3 (f_x_0.adv hI952.adv) hz955).mono ?_
     rintro _ w956 ⟨rfl, r958, r959, r960, e957⟩
     refine ⟨_, rfl, ?_⟩
     have hI961 := hI952.ext e957
     refine s_mv rfl rfl ?_
     refine s_xt rfl rfl rfl ?_
     refine s_xt rfl rfl rfl ?_
     refine y_al hI961 Try.zeroValue45 rfl rfl ?_
     intro b962 w963 hI964 x965
     refine y_st 0 hI964 rfl rfl rfl rfl Try.sizeOf45 rfl rfl (one1 rfl (one1 rfl one0)) ?_
     intro w966 hI967 x968
     have hC970 := hI967.freezeRow 0 rfl
     have hI969 := hI967.erase 0
     refine s_as rfl rfl ?_
     refine Reg.nil ?_
     obtain ⟨j971, h972, h⟩ := bnd h
     refine cw_sub (L := [(2, _), (5, _), (6, _), (7, _), (8, _), (9, _)]) (Sub.cons rfl (Sub.cons rfl (Sub.cons rfl (Sub.cons rfl (Sub.cons rfl (Sub.cons rfl (Sub.nil _))))))) ?_
     refine cw_seqD 6 (ι := Bool) (fun x973 => [(4, Value.bool x973)]) (fun x973 => fun w974 => Hp w [] M [ownR [] SpanE 45 v818 l817] w974 ∧ Adv (mm [ownR [] SpanE 45 v818 l817] M) (mm [ownR [] SpanE 45 v818 l817] M) w966 w974 ∧ x973 = j971) ?_ ?_
     ·skip
      refine cw_regF ?_
      refine s_lda rfl (hC946.adv ((Adv.of_ext e948).trans ((Adv.of_ext e951).trans ((Adv.of_ext e957).trans (x965.trans (x968.trans (Hp.eraseA (σ := [rowR 45 b962 [Value.int .i64 z953.lo, Value.int .i64 z953.hi], ownR [] SpanE 45 v818 l817]) 0))))))).cells Try.isAgg45 rfl Try.sizeOf45 rfl ?_
      refine s_lda rfl hC970.cells Try.isAgg45 rfl Try.sizeOf45 rfl ?_
      refine s_eqS (Span_eq (Span.mk z825.lo z825.hi) (Span.mk z953.lo z953.hi)) Try.eqGuardType45 rfl rfl rfl ?_
      refine s_mv rfl rfl ?_
      refine Reg.gsplit (t := 36) rfl (fun hg977 => ?_) (fun hg977 => ?_)
      ·replace h972 := cdT hg977 h972
       refine Reg.take rfl rfl ?_
       refine s_mv rfl rfl ?_
       refine Reg.take rfl rfl ?_
       refine s_mv rfl rfl ?_
       refine Reg.take rfl rfl ?_
       refine s_eql rfl rfl rfl ?_
       refine s_pkT rfl rfl rfl ?_
       refine s_mv rfl rfl ?_
       refine Reg.gsplit (t := 41) rfl (fun hg978 => ?_) (fun hg978 => ?_)
       ·replace h972 := cdT hg978 h972
        refine Reg.take rfl rfl ?_
        refine s_lda rfl (hC39.adv ((Adv.of_ext e42).trans (x809.trans ((Adv.of_ext e811).trans ((Hp.addLitA (σ := [rowR 45 b806 [Value.int .i64 0, Value.int .i64 0]]) SpanE 45 k814).trans (x821.trans ((Adv.of_ext e823).trans ((Adv.of_ext e829).trans ((Adv.of_ext e835).trans ((Adv.of_ext e838).trans ((Adv.of_ext e936).trans ((Adv.of_ext e939).trans (x944.trans ((Hp.eraseA (σ := [ownR [] SpanE 45 v818 l817, rowR 45 b806 [Value.int .i64 z825.lo, Value.int .i64 z825.hi]]) 1).trans ((Adv.of_ext e948).trans ((Adv.of_ext e951).trans ((Adv.of_ext e957).trans (x965.trans (x968.trans (Hp.eraseA (σ := [rowR 45 b962 [Value.int .i64 z953.lo, Value.int .i64 z953.hi], ownR [] SpanE 45 v818 l817]) 0)))))))))))))))))))).cells Try.isAgg25 rfl Try.sizeOf25 rfl ?_
        refine Reg.take rfl rfl ?_
        refine s_lda rfl (hC6.adv (hA12.trans ((Adv.of_ext e23).trans (x34.trans (x37.trans ((Hp.eraseA (σ := [rowR 25 b31 [Value.int .i64 z20.traits, v25, v27, Value.int .i64 z20.need]]) 0).trans ((Adv.of_ext e42).trans (x809.trans ((Adv.of_ext e811).trans ((Hp.addLitA (σ := [rowR 45 b806 [Value.int .i64 0, Value.int .i64 0]]) SpanE 45 k814).trans (x821.trans ((Adv.of_ext e823).trans ((Adv.of_ext e829).trans ((Adv.of_ext e835).trans ((Adv.of_ext e838).trans ((Adv.of_ext e936).trans ((Adv.of_ext e939).trans (x944.trans ((Hp.eraseA (σ := [ownR [] SpanE 45 v818 l817, rowR 45 b806 [Value.int .i64 z825.lo, Value.int .i64 z825.hi]]) 1).trans ((Adv.of_ext e948).trans ((Adv.of_ext e951).trans ((Adv.of_ext e957).trans (x965.trans (x968.trans (Hp.eraseA (σ := [rowR 45 b962 [Value.int .i64 z953.lo, Value.int .i64 z953.hi], ownR [] SpanE 45 v818 l817]) 0))))))))))))))))))))))))).cells Try.isAgg25 rfl Try.sizeOf25 rfl ?_
        refine Reg.take rfl rfl ?_
        obtain ⟨z979, hz980, h972⟩ := bnd h972
        refine s_call rfl Try.call21 rfl ?_
        refine (C_ref06_Same hI969.mlt r24 (hf26.adv (x34.trans (x37.trans ((Hp.eraseA (σ := [rowR 25 b31 [Value.int .i64 z20.traits, v25, v27, Value.int .i64 z20.need]]) 0).trans ((Adv.of_ext e42).trans (x809.trans ((Adv.of_ext e811).trans ((Hp.addLitA (σ := [rowR 45 b806 [Value.int .i64 0, Value.int .i64 0]]) SpanE 45 k814).trans (x821.trans ((Adv.of_ext e823).trans ((Adv.of_ext e829).trans ((Adv.of_ext e835).trans ((Adv.of_ext e838).trans ((Adv.of_ext e936).trans ((Adv.of_ext e939).trans (x944.trans ((Hp.eraseA (σ := [ownR [] SpanE 45 v818 l817, rowR 45 b806 [Value.int .i64 z825.lo, Value.int .i64 z825.hi]]) 1).trans ((Adv.of_ext e948).trans ((Adv.of_ext e951).trans ((Adv.of_ext e957).trans (x965.trans (x968.trans (Hp.eraseA (σ := [rowR 45 b962 [Value.int .i64 z953.lo, Value.int .i64 z953.hi], ownR [] SpanE 45 v818 l817]) 0))))))))))))))))))))))) (hf28.adv (x34.trans (x37.trans ((Hp.eraseA (σ := [rowR 25 b31 [Value.int .i64 z20.traits, v25, v27, Value.int .i64 z20.need]]) 0).trans ((Adv.of_ext e42).trans (x809.trans ((Adv.of_ext e811).trans ((Hp.addLitA (σ := [rowR 45 b806 [Value.int .i64 0, Value.int .i64 0]]) SpanE 45 k814).trans (x821.trans ((Adv.of_ext e823).trans ((Adv.of_ext e829).trans ((Adv.of_ext e835).trans ((Adv.of_ext e838).trans ((Adv.of_ext e936).trans ((Adv.of_ext e939).trans (x944.trans ((Hp.eraseA (σ := [ownR [] SpanE 45 v818 l817, rowR 45 b806 [Value.int .i64 z825.lo, Value.int .i64 z825.hi]]) 1).trans ((Adv.of_ext e948).trans ((Adv.of_ext e951).trans ((Adv.of_ext e957).trans (x965.trans (x968.trans (Hp.eraseA (σ := [rowR 45 b962 [Value.int .i64 z953.lo, Value.int .i64 z953.hi], ownR [] SpanE 45 v818 l817]) 0))))))))))))))))))))))) r29 f_m_0 (f_m_1.adv hI969.adv) (f_m_2.adv hI969.adv) f_m_3 hz980).mono ?_
        rintro _ w981 ⟨rfl, e982⟩
        refine ⟨_, rfl, ?_⟩
        have hI983 := hI969.ext e982
        refine s_pkT rfl rfl rfl ?_
        refine s_as rfl rfl ?_
        refine Reg.nil ?_
        obtain rfl := Option.some.inj h972
        refine ⟨rfl, z979, ⟨hI983, (Adv.of_ext e982), rfl⟩, Sub.cons rfl (Sub.nil _)⟩
       ·replace h972 := cdF hg978 h972
        refine Reg.pass rfl rfl rfl rfl ?_
        refine Reg.pass rfl rfl rfl rfl ?_
        refine Reg.pass rfl rfl rfl rfl ?_
        refine s_pkF rfl rfl rfl ?_
        refine s_as rfl rfl ?_
        refine Reg.nil ?_
        obtain rfl := Option.some.inj h972
        refine ⟨rfl, false, ⟨hI969, (Adv.refl _ _), rfl⟩, Sub.cons rfl (Sub.nil _)⟩
      ·replace h972 := cdF hg977 h972
       refine Reg.pass rfl rfl rfl rfl ?_
       refine Reg.pass rfl rfl rfl rfl ?_
       refine Reg.pass rfl rfl rfl rfl ?_
       refine s_pkF rfl rfl rfl ?_
       refine s_mv rfl rfl ?_
       refine Reg.pass rfl rfl rfl rfl ?_
       refine Reg.pass rfl rfl rfl rfl ?_
       refine Reg.pass rfl rfl rfl rfl ?_
       refine s_pkF rfl rfl rfl ?_
       refine s_as rfl rfl ?_
       refine Reg.nil ?_
       obtain rfl := Option.some.inj h972
       refine ⟨rfl, false, ⟨hI969, (Adv.refl _ _), rfl⟩, Sub.cons rfl (Sub.nil _)⟩
     ·skip
      rintro x973 w974 ⟨hI975, hA976, rfl⟩
      refine cw_ret ?_
      obtain rfl := Option.some.inj h
      refine fin1 Try.results4 rfl ?_
      exact ⟨rfl, hI975.kp⟩
end Go.Proofs.Ytecmlmngcnionaa
