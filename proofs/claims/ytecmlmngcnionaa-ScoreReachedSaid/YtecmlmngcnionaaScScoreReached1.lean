/-
  Part ScoreReached 1 of the texts that the statement's proof stands on: what memory holds, how code is walked, what the functions reckon. In the order in which they build.
-/

import Derived.Test.YtecmlmngcnionaaSc9
set_option linter.unusedVariables false
set_option maxRecDepth 20000
namespace Go.Proofs.Ytecmlmngcnionaa
open Go Go.Sx Go.RowKit
noncomputable def P.law06_ScoreReached (m : Model) (x : (List Span)) (which : Int) (where_ : Int) : Option Bool :=
 Option.bind (P.law06_alive ) fun z7 => cond (!z7) (some false) (Option.bind (Option.bind (P.ref06_Great (Model.mk m.traits m.cards m.trees m.need)) fun z13 => cond z13 (some true) (Option.bind (P.ref06_Check (Model.mk m.traits m.cards m.trees m.need)) fun z19 => cond (!decide (z19 = 0)) (some true) (some (!decide ((x.length : Int) = m.traits))))) fun x26 => cond x26 (some z7) (Option.bind (loopM (S := Int) (R := (Unit) ⊕ (Bool)) (fun x28 => cond (decide (x28 < (x.length : Int))) (Option.bind (ixo x x28) fun y30 => Option.bind (cond (decide (y30.lo < 0)) (some true) (cond (decide (y30.hi < y30.lo)) (some true) (some (decide (1000000 < y30.hi))))) fun x49 => cond x49 (some (.inr (.inr z7))) (Option.bind (chk .i64 (x28 + 1)) fun n51 => some (.inl n51))) (some (.inr (.inl ())))) 0) fun j52 => Sum.elim (fun _ => Option.bind (chk .i64 which) fun n53 => Option.bind (remO n53 (x.length : Int)) fun n54 => Option.bind (appo 16 ([] : List Span) x) fun l59 => Option.bind (appo 16 ([] : List Span) x) fun l68 => Option.bind (ixo x n54) fun y73 => Option.bind (chk .i64 where_) fun n81 => Option.bind (ixo x n54) fun y82 => Option.bind (ixo x n54) fun y90 => Option.bind (chk .i64 (y82.hi - y90.lo)) fun n98 => Option.bind (chk .i64 (n98 + 1)) fun n99 => Option.bind (remO n81 n99) fun n100 => Option.bind (chk .i64 (y73.lo + n100)) fun n101 => Option.bind (ixo x n54) fun y105 => cond (decide (n101 = y105.hi)) (some z7) (Option.bind (chk .i64 (n101 + 1)) fun n114 => Option.bind (ixo l59 n54) fun y115 => Option.bind (seto l59 n54 (Span.mk y115.lo n101)) fun l123 => Option.bind (ixo l68 n54) fun y127 => Option.bind (seto l68 n54 (Span.mk n114 y127.hi)) fun l135 => Option.bind (P.score_Between (Model.mk m.traits m.cards m.trees m.need) x) fun (z139, z140) => Option.bind (P.score_Between (Model.mk m.traits m.cards m.trees m.need) l123) fun (z157, z158) => Option.bind (P.score_Between (Model.mk m.traits m.cards m.trees m.need) l135) fun (z175, z176) => Option.bind (cond z7 (cond (decide (z140 = 0)) (cond (decide (z158 = 0)) (cond (decide (z176 = 0)) (Option.bind (P.law06_span (min z157.lo z175.lo) (max z157.hi z175.hi)) fun z197 => some (decide ((Span.mk z139.lo z139.hi) = z197))) (some false)) (some false)) (some false)) (some false)) fun x218 => some x218)) (fun r219 => some r219)  j52))
theorem C_law06_ScoreReached {M : List Nat} {w : World} (hM : MLt M w) {m : Model} {v_m_1 : Value} {v_m_2 : Value} (f_m_0 : InK .i64 m.traits) (f_m_1 : RdS CardE M w v_m_1 m.cards) (f_m_2 : RdS TreeE M w v_m_2 m.trees) (f_m_3 : InK .i64 m.need) {x : (List Span)} {v_x_0 : Value} (f_x_0 : RdS SpanE M w v_x_0 x) {which : Int} (f_which_0 : InK IntKind.u8 which) {where_ : Int} (f_where__0 : InK IntKind.u32 where_) {r0 : Bool} (h : P.law06_ScoreReached m x which where_ = some r0) :
  Calls Try.prog 9 (List.toArray [Value.agg (List.toArray [Value.int .i64 m.traits, v_m_1, v_m_2, Value.int .i64 m.need]), v_x_0, Value.int IntKind.u8 which, Value.int IntKind.u32 where_]) w fun e w' => e = .returned (Value.bool r0) ∧ Ext w w' := by
 have hI := Hp.start (Mu := []) hM
 refine calls_cw Try.func9 rfl Try.ntmps9 rfl ?_
 refine cw_seq (cw_regF ?_)
 refine y_box hI rfl rfl rfl ?_
 intro b1 w2 hI3 x4
 have hC6 := hI3.freezeRow 0 rfl
 have hI5 := hI3.erase 0
 refine s_as rfl rfl ?_
 refine Reg.nil ?_
 refine cw_seq (cw_regF ?_)
 obtain ⟨z7, hz8, h⟩ := bnd h
 refine s_call rfl Try.call24 rfl ?_
 refine (C_law06_alive hI5.mlt hz8).mono ?_
 rintro _ w9 ⟨rfl, e10⟩
 refine ⟨_, rfl, ?_⟩
 have hI11 := hI5.ext e10
 refine s_as rfl rfl ?_
 refine Reg.nil ?_
 refine cw_seq (cw_seq (cw_regF ?_))
 refine s_mv rfl rfl ?_
 refine s_not rfl rfl ?_
 refine Reg.nil ?_
 refine cw_cond rfl (fun hc12 => ?_) (fun hc12 => ?_)
 ·replace h := cdT hc12 h
  refine cw_seq (cw_regF ?_)
  refine s_as rfl rfl ?_
  refine Reg.nil ?_
  refine cw_ret ?_
  obtain rfl := Option.some.inj h
  refine fin1 Try.results9 rfl ?_
  exact ⟨rfl, hI11.kp⟩
 ·replace h := cdF hc12 h
  refine cw_skip ?_
  refine cw_seq ?_
  obtain ⟨j13, h14, h⟩ := bnd h
  refine cw_sub (L := [(1, _), (2, _), (3, _), (4, _), (9, _)]) (Sub.cons rfl (Sub.cons rfl (Sub.cons rfl (Sub.cons rfl (Sub.cons rfl (Sub.nil _)))))) ?_
  refine cw_seqD 0 (ι := Bool) (fun x15 => [(38, Value.bool x15)]) (fun x15 => fun w16 => Hp w [] M [] w16 ∧ Adv (mm [] M) (mm [] M) w9 w16 ∧ x15 = j13) ?_ ?_
  ·skip
   refine cw_regF ?_
   refine s_lda rfl (hC6.adv (Adv.of_ext e10)).cells Try.isAgg25 rfl Try.sizeOf25 rfl ?_
   obtain ⟨z19, hz20, h14⟩ := bnd h14
   refine s_call rfl Try.call12 rfl ?_
   refine (C_ref06_Great hI11.mlt f_m_0 (f_m_1.adv hI11.adv) (f_m_2.adv hI11.adv) f_m_3 hz20).mono ?_
   rintro _ w21 ⟨rfl, e22⟩
   refine ⟨_, rfl, ?_⟩
   have hI23 := hI11.ext e22
   refine s_mv rfl rfl ?_
   refine Reg.gsplit (t := 27) rfl (fun hg24 => ?_) (fun hg24 => ?_)
   ·replace h14 := cdT hg24 h14
    refine Reg.pass rfl rfl rfl rfl ?_
    refine Reg.pass rfl rfl rfl rfl ?_
    refine Reg.pass rfl rfl rfl rfl ?_
    refine s_pkT rfl rfl rfl ?_
    refine s_mv rfl rfl ?_
    refine Reg.pass rfl rfl rfl rfl ?_
    refine Reg.pass rfl rfl rfl rfl ?_
    refine Reg.pass rfl rfl rfl rfl ?_
    refine Reg.pass rfl rfl rfl rfl ?_
    refine Reg.pass rfl rfl rfl rfl ?_
    refine s_pkT rfl rfl rfl ?_
    refine Reg.nil ?_
    obtain rfl := Option.some.inj h14
    refine ⟨rfl, true, ⟨hI23, (Adv.of_ext e22), rfl⟩, Sub.cons rfl (Sub.cons rfl (Sub.cons rfl (Sub.cons rfl (Sub.cons rfl (Sub.cons rfl (Sub.nil _))))))⟩
   ·replace h14 := cdF hg24 h14
    refine Reg.take rfl rfl ?_
    refine s_lda rfl (hC6.adv ((Adv.of_ext e10).trans (Adv.of_ext e22))).cells Try.isAgg25 rfl Try.sizeOf25 rfl ?_
    refine Reg.take rfl rfl ?_
    obtain ⟨z25, hz26, h14⟩ := bnd h14
    refine s_call rfl Try.call19 rfl ?_
    refine (C_ref06_Check hI23.mlt f_m_0 (f_m_1.adv hI23.adv) (f_m_2.adv hI23.adv) f_m_3 hz26).mono ?_
    rintro _ w27 ⟨rfl, r29, e28⟩
    refine ⟨_, rfl, ?_⟩
    have hI30 := hI23.ext e28
    refine Reg.take rfl rfl ?_
    refine s_neq rfl rfl rfl ?_
    refine s_pkF rfl rfl rfl ?_
    refine s_mv rfl rfl ?_
    refine Reg.gsplit (t := 32) rfl (fun hg31 => ?_) (fun hg31 => ?_)
    ·replace h14 := cdT hg31 h14
     refine Reg.pass rfl rfl rfl rfl ?_
     refine Reg.pass rfl rfl rfl rfl ?_
     refine Reg.pass rfl rfl rfl rfl ?_
     refine Reg.pass rfl rfl rfl rfl ?_
     refine Reg.pass rfl rfl rfl rfl ?_
     refine s_pkT rfl rfl rfl ?_
     refine Reg.nil ?_
     obtain rfl := Option.some.inj h14
     refine ⟨rfl, true, ⟨hI30, ((Adv.of_ext e22).trans (Adv.of_ext e28)), rfl⟩, Sub.cons rfl (Sub.cons rfl (Sub.cons rfl (Sub.cons rfl (Sub.cons rfl (Sub.cons rfl (Sub.nil _))))))⟩
    ·replace h14 := cdF hg31 h14
     refine Reg.take rfl rfl ?_
     refine s_mv rfl rfl ?_
     refine Reg.take rfl rfl ?_
     refine s_len rfl (f_x_0.adv hI30.adv) Try.underlying43 rfl ?_
     refine Reg.take rfl rfl ?_
     refine s_fa rfl Try.underlying25 rfl Try.sizeOf3 rfl ?_
     refine Reg.take rfl rfl ?_
     refine s_ld rfl ((hC6.adv ((Adv.of_ext e10).trans ((Adv.of_ext e22).trans (Adv.of_ext e28)))).cells.at 0 rfl) Try.isAgg3 rfl ?_
     refine Reg.take rfl rfl ?_
     refine s_neq rfl rfl rfl ?_
     refine s_pkF rfl rfl rfl ?_
     refine Reg.nil ?_
     obtain rfl := Option.some.inj h14
     refine ⟨rfl, !decide ((x.length : Int) = m.traits), ⟨hI30, ((Adv.of_ext e22).trans (Adv.of_ext e28)), rfl⟩, Sub.cons rfl (Sub.cons rfl (Sub.cons rfl (Sub.cons rfl (Sub.cons rfl (Sub.cons rfl (Sub.nil _))))))⟩
  ·skip
   rintro x15 w16 ⟨hI17, hA18, rfl⟩
   refine cw_cond rfl (fun hc32 => ?_) (fun hc32 => ?_)
   ·replace h := cdT hc32 h
    refine cw_seq (cw_regF ?_)
    refine s_mv rfl rfl ?_
    refine s_as rfl rfl ?_
    refine Reg.nil ?_
    refine cw_ret ?_
    obtain rfl := Option.some.inj h
    refine fin1 Try.results9 rfl ?_
    exact ⟨rfl, hI17.kp⟩
   ·replace h := cdF hc32 h
    refine cw_skip (cw_seq (cw_seq (cw_regF ?_)))
    refine s_mv rfl rfl ?_
    refine s_len rfl (f_x_0.adv hI17.adv) Try.underlying43 rfl ?_
    refine s_mv rfl rfl ?_
    refine Reg.nil ?_
    obtain ⟨j33, h34, h⟩ := bnd h
    refine cw_sub (L := [(40, _), (41, _), (42, _), (1, _), (2, _), (3, _), (4, _), (9, _)]) (Sub.cons rfl (Sub.cons rfl (Sub.cons rfl (Sub.cons rfl (Sub.cons rfl (Sub.cons rfl (Sub.cons rfl (Sub.cons rfl (Sub.nil _))))))))) ?_
    refine cw_unitD 3 (ι := Unit) (fun _ => []) (fun _ => fun w35 => Hp w [] M [] w35 ∧ Adv (mm [] M) (mm [] M) w16 w35 ∧ (.inl ()) = j33) ?_ ?_
    ·skip
     refine cw_block ?_
     refine cw_sub (L := [(42, _), (1, _), (2, _), (3, _), (4, _), (9, _), (40, _), (41, _)]) (Sub.cons rfl (Sub.cons rfl (Sub.cons rfl (Sub.cons rfl (Sub.cons rfl (Sub.cons rfl (Sub.cons rfl (Sub.cons rfl (Sub.nil _))))))))) ?_
     refine cw_loopM 1 (ι := Int) _ (fun x38 => [(42, Value.int .i64 x38)]) (fun x38 => x38) (fun x38 => fun w40 => Hp w [] M [] w40 ∧ Adv (mm [] M) (mm [] M) w16 w40 ∧ InK .i64 x38) 0 h34 ⟨hI17, (Adv.refl _ _), (by decide)⟩ (Sub.cons rfl (Sub.cons rfl (Sub.cons rfl (Sub.cons rfl (Sub.cons rfl (Sub.cons rfl (Sub.cons rfl (Sub.cons rfl (Sub.nil _))))))))) ?_
     rintro x38 w40 ⟨hI41, hA42, r39⟩ y43 h44 hR45
     refine cw_seq (cw_regF ?_)
     refine s_lss rfl rfl rfl ?_
     refine Reg.nil ?_
     refine cw_seq ?_
     refine cw_cond rfl (fun hc46 => ?_) (fun hc46 => ?_)
     ·replace h44 := cdT hc46 h44
      refine cw_skip ?_
      refine cw_seq ?_
      refine cw_block ?_
      refine cw_seq (cw_regF ?_)
      obtain ⟨y47, hy47, h44⟩ := bnd h44
      refine p_ia rfl rfl (f_x_0.adv hI41.adv) hy47 Try.underlying43 Try.sizeOf45 rfl ?_
      intro b48 o49 cs50 hR51 hC52
      obtain ⟨rfl, r53, r54⟩ := SpanE_R.1 hR51
      refine s_lda rfl hC52.cells Try.isAgg45 rfl Try.sizeOf45 rfl ?_
      refine y_al hI41 Try.zeroValue45 rfl rfl ?_
      intro b55 w56 hI57 x58
      refine y_st 0 hI57 rfl rfl rfl rfl Try.sizeOf45 rfl rfl (one1 rfl (one1 rfl one0)) ?_
      intro w59 hI60 x61
      have hC63 := hI60.freezeRow 0 rfl
      have hI62 := hI60.erase 0
      refine Reg.nil ?_
      obtain ⟨j64, h65, h44⟩ := bnd h44
      refine cw_sub (L := [(11, _), (1, _), (2, _), (3, _), (4, _), (9, _), (40, _), (41, _), (42, _)]) (Sub.cons rfl (Sub.cons rfl (Sub.cons rfl (Sub.cons rfl (Sub.cons rfl (Sub.cons rfl (Sub.cons rfl (Sub.cons rfl (Sub.cons rfl (Sub.nil _)))))))))) ?_
      refine cw_seqD 1 (ι := Bool) (fun x66 => [(60, Value.bool x66)]) (fun x66 => fun w67 => w59 = w67 ∧ x66 = j64) ?_ ?_
      ·skip
       refine cw_regF ?_
       refine s_fa rfl Try.underlying45 rfl Try.sizeOf3 rfl ?_
       refine s_ld rfl (hC63.cells.at 0 rfl) Try.isAgg3 rfl ?_
       refine s_lss rfl rfl rfl ?_
       refine s_mv rfl rfl ?_
       refine Reg.gsplit (t := 49) rfl (fun hg70 => ?_) (fun hg70 => ?_)
       ·replace h65 := cdT hg70 h65
        refine Reg.pass rfl rfl rfl rfl ?_
        refine Reg.pass rfl rfl rfl rfl ?_
        refine Reg.pass rfl rfl rfl rfl ?_
        refine Reg.pass rfl rfl rfl rfl ?_
        refine Reg.pass rfl rfl rfl rfl ?_
        refine s_pkT rfl rfl rfl ?_
        refine s_mv rfl rfl ?_
        refine Reg.pass rfl rfl rfl rfl ?_
        refine Reg.pass rfl rfl rfl rfl ?_
        refine Reg.pass rfl rfl rfl rfl ?_
        refine s_pkT rfl rfl rfl ?_
        refine Reg.nil ?_
        obtain rfl := Option.some.inj h65
        refine ⟨rfl, true, ⟨rfl, rfl⟩, Sub.cons rfl (Sub.cons rfl (Sub.cons rfl (Sub.cons rfl (Sub.cons rfl (Sub.cons rfl (Sub.cons rfl (Sub.cons rfl (Sub.cons rfl (Sub.nil _)))))))))⟩
       ·replace h65 := cdF hg70 h65
        refine Reg.take rfl rfl ?_
        refine s_fa rfl Try.underlying45 rfl Try.sizeOf3 rfl ?_
        refine Reg.take rfl rfl ?_
        refine s_ld rfl (hC63.cells.at 0 rfl) Try.isAgg3 rfl ?_
        refine Reg.take rfl rfl ?_
        refine s_fa rfl Try.underlying45 rfl Try.sizeOf3 rfl ?_
        refine Reg.take rfl rfl ?_
        refine s_ld rfl (hC63.cells.at 1 rfl) Try.isAgg3 rfl ?_
        refine Reg.take rfl rfl ?_
        refine s_gtr rfl rfl rfl ?_
        refine s_pkF rfl rfl rfl ?_
        refine s_mv rfl rfl ?_
        refine Reg.gsplit (t := 56) rfl (fun hg71 => ?_) (fun hg71 => ?_)
        ·replace h65 := cdT hg71 h65
         refine Reg.pass rfl rfl rfl rfl ?_
         refine Reg.pass rfl rfl rfl rfl ?_
         refine Reg.pass rfl rfl rfl rfl ?_
         refine s_pkT rfl rfl rfl ?_
         refine Reg.nil ?_
         obtain rfl := Option.some.inj h65
         refine ⟨rfl, true, ⟨rfl, rfl⟩, Sub.cons rfl (Sub.cons rfl (Sub.cons rfl (Sub.cons rfl (Sub.cons rfl (Sub.cons rfl (Sub.cons rfl (Sub.cons rfl (Sub.cons rfl (Sub.nil _)))))))))⟩
        ·replace h65 := cdF hg71 h65
         refine Reg.take rfl rfl ?_
         refine s_fa rfl Try.underlying45 rfl Try.sizeOf3 rfl ?_
         refine Reg.take rfl rfl ?_
         refine s_ld rfl (hC63.cells.at 1 rfl) Try.isAgg3 rfl ?_
         refine Reg.take rfl rfl ?_
         refine s_gtr rfl rfl rfl ?_
         refine s_pkF rfl rfl rfl ?_
         refine Reg.nil ?_
         obtain rfl := Option.some.inj h65
         refine ⟨rfl, decide (1000000 < y47.hi), ⟨rfl, rfl⟩, Sub.cons rfl (Sub.cons rfl (Sub.cons rfl (Sub.cons rfl (Sub.cons rfl (Sub.cons rfl (Sub.cons rfl (Sub.cons rfl (Sub.cons rfl (Sub.nil _)))))))))⟩
      ·skip
       rintro x66 _ ⟨rfl, rfl⟩
       refine cw_cond rfl (fun hc72 => ?_) (fun hc72 => ?_)
       ·replace h44 := cdT hc72 h44
        refine cw_seq (cw_regF ?_)
        refine s_mv rfl rfl ?_
        refine s_as rfl rfl ?_
        refine Reg.nil ?_
        refine cw_ret ?_
        obtain rfl := Option.some.inj h44
        obtain rfl := hR45 _ rfl
        replace h := elimR h
        obtain rfl := Option.some.inj h
        refine fin1 Try.results9 rfl ?_
        exact ⟨rfl, hI62.kp⟩
       ·replace h44 := cdF hc72 h44
        refine cw_skip ?_
        refine cw_regF ?_
        obtain ⟨n73, hn73, h44⟩ := bnd h44
        replace hn73 := chk_out hn73
        refine p_add rfl rfl rfl hn73 ?_
        refine s_mv rfl rfl ?_
        refine Reg.nil ?_
        obtain rfl := Option.some.inj h44
        refine ⟨rfl, n73, ⟨⟨hI62, (hA42.trans (x58.trans (x61.trans (Hp.eraseA (σ := [rowR 45 b55 [Value.int .i64 y47.lo, Value.int .i64 y47.hi]]) 0)))), hn73.2⟩, rfl⟩, Sub.cons rfl (Sub.cons rfl (Sub.cons rfl (Sub.cons rfl (Sub.cons rfl (Sub.cons rfl (Sub.cons rfl (Sub.cons rfl (Sub.nil _))))))))⟩
     ·replace h44 := cdF hc46 h44
      refine cw_exit ?_
      refine exB_same ?_
      obtain rfl := Option.some.inj h44
      obtain rfl := hR45 _ rfl
      refine ⟨rfl, (), ⟨hI41, hA42, rfl⟩, Sub.cons rfl (Sub.cons rfl (Sub.cons rfl (Sub.cons rfl (Sub.cons rfl (Sub.nil _)))))⟩
    ·skip
     rintro _ w35 ⟨hI36, hA37, rfl⟩
     replace h := elimL h
     refine cw_seq (cw_regF ?_)
     refine s_mv rfl rfl ?_
     obtain ⟨n74, hn74, h⟩ := bnd h
     replace hn74 := chk_out hn74
     refine p_cvt rfl Try.underlying5 Try.underlying3 rfl hn74 ?_
     refine s_mv rfl rfl ?_
     refine s_len rfl (f_x_0.adv hI36.adv) Try.underlying43 rfl ?_
     obtain ⟨n75, hn75, h⟩ := bnd h
     have kn75 := remO_out hn75
     refine p_rem rfl rfl rfl kn75 ?_
     refine s_as rfl rfl ?_
     refine Reg.nil ?_
     refine cw_seq (cw_regF ?_)
     refine y_bs (E := SpanE) (xs := []) sl43 hI36 rfl rfl Cls.nil Chs.nil rfl rfl ?_
     intro v76 w77 hI78 x79
     refine s_mv rfl rfl ?_
     obtain ⟨l80, hl80, h⟩ := bnd h
     obtain ⟨hbl80, el80⟩ := appo_out hl80
     refine y_app 0 sl43 hI78 rfl rfl rfl (f_x_0.adv hI78.adv) hbl80 rfl ?_
     rw [← el80]
     intro v81 w82 hI83 x84
     refine y_bs (E := SpanE) (xs := []) sl43 hI83 rfl rfl Cls.nil Chs.nil rfl rfl ?_
     intro v85 w86 hI87 x88
     refine s_mv rfl rfl ?_
     obtain ⟨l89, hl89, h⟩ := bnd h
     obtain ⟨hbl89, el89⟩ := appo_out hl89
     refine y_app 0 sl43 hI87 rfl rfl rfl (f_x_0.adv hI87.adv) hbl89 rfl ?_
     rw [← el89]
     intro v90 w91 hI92 x93
     refine s_as rfl rfl ?_
     refine s_as rfl rfl ?_
     refine Reg.nil ?_
     refine cw_seq ?_
     refine cw_regT fol (by kernel_rfl) ?_
     refine s_mv rfl rfl ?_
     refine s_mv rfl rfl ?_
     obtain ⟨y94, hy94, h⟩ := bnd h
     refine p_ia rfl rfl (f_x_0.adv hI92.adv) hy94 Try.underlying43 Try.sizeOf45 rfl ?_
     intro b95 o96 cs97 hR98 hC99
     obtain ⟨rfl, r100, r101⟩ := SpanE_R.1 hR98
     refine s_fa rfl Try.underlying45 rfl Try.sizeOf3 rfl ?_
     refine s_ld rfl (hC99.cells.at 0 rfl) Try.isAgg3 rfl ?_
     refine s_mv rfl rfl ?_
     obtain ⟨n102, hn102, h⟩ := bnd h
     replace hn102 := chk_out hn102
     refine p_cvt rfl Try.underlying65 Try.underlying3 rfl hn102 ?_
     refine s_mv rfl rfl ?_
     refine s_mv rfl rfl ?_
     obtain ⟨y103, hy103, h⟩ := bnd h
     refine p_ia rfl rfl (f_x_0.adv hI92.adv) hy103 Try.underlying43 Try.sizeOf45 rfl ?_
     intro b104 o105 cs106 hR107 hC108
     obtain ⟨rfl, r109, r110⟩ := SpanE_R.1 hR107
     refine s_fa rfl Try.underlying45 rfl Try.sizeOf3 rfl ?_
     refine s_ld rfl (hC108.cells.at 1 rfl) Try.isAgg3 rfl ?_
     refine s_mv rfl rfl ?_
     refine s_mv rfl rfl ?_
     obtain ⟨y111, hy111, h⟩ := bnd h
     refine p_ia rfl rfl (f_x_0.adv hI92.adv) hy111 Try.underlying43 Try.sizeOf45 rfl ?_
     intro b112 o113 cs114 hR115 hC116
     obtain ⟨rfl, r117, r118⟩ := SpanE_R.1 hR115
     refine s_fa rfl Try.underlying45 rfl Try.sizeOf3 rfl ?_
     refine s_ld rfl (hC116.cells.at 0 rfl) Try.isAgg3 rfl ?_
     obtain ⟨n119, hn119, h⟩ := bnd h
     replace hn119 := chk_out hn119
     refine p_sub rfl rfl rfl hn119 ?_
     obtain ⟨n120, hn120, h⟩ := bnd h
     replace hn120 := chk_out hn120
     refine p_add rfl rfl rfl hn120 ?_
     obtain ⟨n121, hn121, h⟩ := bnd h
     have kn121 := remO_out hn121
     refine p_rem rfl rfl rfl kn121 ?_
     obtain ⟨n122, hn122, h⟩ := bnd h
     replace hn122 := chk_out hn122
     refine p_add rfl rfl rfl hn122 ?_
     refine s_as rfl rfl ?_
     refine Reg.nilq (fun w123 e124 => ?_)
     have hI125 := hI92.ext e124
     refine cw_seq (cw_seq (cw_regF ?_))
     refine s_mv rfl rfl ?_
     refine s_mv rfl rfl ?_
     refine s_mv rfl rfl ?_
     obtain ⟨y126, hy126, h⟩ := bnd h
     refine p_ia rfl rfl (f_x_0.adv hI125.adv) hy126 Try.underlying43 Try.sizeOf45 rfl ?_
     intro b127 o128 cs129 hR130 hC131
     obtain ⟨rfl, r132, r133⟩ := SpanE_R.1 hR130
     refine s_fa rfl Try.underlying45 rfl Try.sizeOf3 rfl ?_
     refine s_ld rfl (hC131.cells.at 1 rfl) Try.isAgg3 rfl ?_
     refine s_eql rfl rfl rfl ?_
     refine Reg.nil ?_
     refine cw_cond rfl (fun hc134 => ?_) (fun hc134 => ?_)
     ·replace h := cdT hc134 h
      refine cw_seq (cw_regF ?_)
      refine s_mv rfl rfl ?_
      refine s_as rfl rfl ?_
      refine Reg.nil ?_
      refine cw_ret ?_
      obtain rfl := Option.some.inj h
      refine fin1 Try.results9 rfl ?_
      exact ⟨rfl, hI125.kp⟩
     ·replace h := cdF hc134 h
      refine cw_skip (cw_seq (cw_regF ?_))
      refine s_mv rfl rfl ?_
      refine s_mv rfl rfl ?_
      refine s_mv rfl rfl ?_
      refine s_mv rfl rfl ?_
      refine s_mv rfl rfl ?_
      refine s_mv rfl rfl ?_
      obtain ⟨n135, hn135, h⟩ := bnd h
      replace hn135 := chk_out hn135
      refine p_add rfl rfl rfl hn135 ?_
      obtain ⟨y136, hy136, h⟩ := bnd h
      refine y_ia 1 hI125 rfl rfl rfl hy136 Try.underlying43 Try.sizeOf45 rfl ?_
      intro g137 cs138 hg139 hR140 hC141
      have khR140 := hR140
      obtain ⟨rfl, r142, r143⟩ := SpanE_R.1 hR140
      refine s_fa rfl Try.underlying45 rfl Try.sizeOf3 rfl ?_
      obtain ⟨l144, hl144, h⟩ := bnd h
      refine y_sto 1 (E := SpanE) (o := 1) hI125 rfl rfl rfl rfl hg139 hl144 ((SpanE_R (x := y136)).2 ⟨rfl, r142, r143⟩) hC141 ((SpanE_R (x := (Span.mk y136.lo n122))).2 ⟨rfl, r142, hn122.2⟩) rfl Try.sizeOf3 rfl (one1 rfl one0) ?_
      intro w145 hI146 x147
      obtain ⟨y148, hy148, h⟩ := bnd h
      refine y_ia 0 hI146 rfl rfl rfl hy148 Try.underlying43 Try.sizeOf45 rfl ?_
      intro g149 cs150 hg151 hR152 hC153
      have khR152 := hR152
      obtain ⟨rfl, r154, r155⟩ := SpanE_R.1 hR152
      refine s_fa rfl Try.underlying45 rfl Try.sizeOf3 rfl ?_
      obtain ⟨l156, hl156, h⟩ := bnd h
      refine y_sto 0 (E := SpanE) (o := 0) hI146 rfl rfl rfl rfl hg151 hl156 ((SpanE_R (x := y148)).2 ⟨rfl, r154, r155⟩) hC153 ((SpanE_R (x := (Span.mk n135 y148.hi))).2 ⟨rfl, hn135.2, r155⟩) rfl Try.sizeOf3 rfl (one1 rfl one0) ?_
      intro w157 hI158 x159
      refine Reg.nil ?_
      refine cw_seq (cw_regF ?_)
      refine s_lda rfl (hC6.adv ((Adv.of_ext e10).trans (hA18.trans (hA37.trans (x79.trans (x84.trans (x88.trans (x93.trans ((Adv.of_ext e124).trans (x147.trans x159)))))))))).cells Try.isAgg25 rfl Try.sizeOf25 rfl ?_
      refine s_mv rfl rfl ?_
      obtain ⟨⟨z160, z161⟩, hz162, h⟩ := bnd h
      refine s_call rfl Try.call22 rfl ?_
      refine (C_score_Between hI158.mlt f_m_0 (f_m_1.adv hI158.adv) (f_m_2.adv hI158.adv) f_m_3 (f_x_0.adv hI158.adv) hz162).mono ?_
      rintro _ w163 ⟨rfl, r165, r166, r167, e164⟩
      refine ⟨_, rfl, ?_⟩
      have hI168 := hI158.ext e164
      refine s_mv rfl rfl ?_
      refine s_xt rfl rfl rfl ?_
      refine s_xt rfl rfl rfl ?_
      refine y_al hI168 Try.zeroValue45 rfl rfl ?_
      intro b169 w170 hI171 x172
      refine y_st 0 hI171 rfl rfl rfl rfl Try.sizeOf45 rfl rfl (one1 rfl (one1 rfl one0)) ?_
      intro w173 hI174 x175
      have hC177 := hI174.freezeRow 0 rfl
      have hI176 := hI174.erase 0
      refine s_as rfl rfl ?_
      refine Reg.nil ?_
      refine cw_seq (cw_regF ?_)
      refine s_lda rfl (hC6.adv ((Adv.of_ext e10).trans (hA18.trans (hA37.trans (x79.trans (x84.trans (x88.trans (x93.trans ((Adv.of_ext e124).trans (x147.trans (x159.trans ((Adv.of_ext e164).trans (x172.trans (x175.trans (Hp.eraseA (σ := [rowR 45 b169 [Value.int .i64 z160.lo, Value.int .i64 z160.hi], ownR [] SpanE 45 v90 l156, ownR [] SpanE 45 v81 l144]) 0))))))))))))))).cells Try.isAgg25 rfl Try.sizeOf25 rfl ?_
      refine s_mv rfl rfl ?_
      obtain ⟨⟨z178, z179⟩, hz180, h⟩ := bnd h
      refine s_call rfl Try.call22 rfl ?_
      refine (C_score_Between (hI176.sel [0] rfl).mlt f_m_0 ((f_m_1.adv hI176.adv).adv (Hp.selA (σ := [ownR [] SpanE 45 v90 l156, ownR [] SpanE 45 v81 l144]) [0])) ((f_m_2.adv hI176.adv).adv (Hp.selA (σ := [ownR [] SpanE 45 v90 l156, ownR [] SpanE 45 v81 l144]) [0])) f_m_3 (hI176.lendRd [0] 1 rfl rfl) hz180).mono ?_
      rintro _ w181 ⟨rfl, r183, r184, r185, e182⟩
      refine ⟨_, rfl, ?_⟩
      have hI186 := hI176.ext e182
      refine s_mv rfl rfl ?_
      refine s_xt rfl rfl rfl ?_
      refine s_xt rfl rfl rfl ?_
      refine y_al hI186 Try.zeroValue45 rfl rfl ?_
      intro b187 w188 hI189 x190
      refine y_st 0 hI189 rfl rfl rfl rfl Try.sizeOf45 rfl rfl (one1 rfl (one1 rfl one0)) ?_
      intro w191 hI192 x193
      have hC195 := hI192.freezeRow 0 rfl
      have hI194 := hI192.erase 0
      refine s_as rfl rfl ?_
      refine Reg.nil ?_
      refine cw_seq (cw_regF ?_)
      refine s_lda rfl (hC6.adv ((Adv.of_ext e10).trans (hA18.trans (hA37.trans (x79.trans (x84.trans (x88.trans (x93.trans ((Adv.of_ext e124).trans (x147.trans (x159.trans ((Adv.of_ext e164).trans (x172.trans (x175.trans ((Hp.eraseA (σ := [rowR 45 b169 [Value.int .i64 z160.lo, Value.int .i64 z160.hi], ownR [] SpanE 45 v90 l156, ownR [] SpanE 45 v81 l144]) 0).trans ((Adv.of_ext e182).trans (x190.trans (x193.trans (Hp.eraseA (σ := [rowR 45 b187 [Value.int .i64 z178.lo, Value.int .i64 z178.hi], ownR [] SpanE 45 v90 l156, ownR [] SpanE 45 v81 l144]) 0))))))))))))))))))).cells Try.isAgg25 rfl Try.sizeOf25 rfl ?_
      refine s_mv rfl rfl ?_
      obtain ⟨⟨z196, z197⟩, hz198, h⟩ := bnd h
      refine s_call rfl Try.call22 rfl ?_
      refine (C_score_Between (hI194.sel [1] rfl).mlt f_m_0 ((f_m_1.adv hI194.adv).adv (Hp.selA (σ := [ownR [] SpanE 45 v90 l156, ownR [] SpanE 45 v81 l144]) [1])) ((f_m_2.adv hI194.adv).adv (Hp.selA (σ := [ownR [] SpanE 45 v90 l156, ownR [] SpanE 45 v81 l144]) [1])) f_m_3 (hI194.lendRd [1] 0 rfl rfl) hz198).mono ?_
      rintro _ w199 ⟨rfl, r201, r202, r203, e200⟩
      refine ⟨_, rfl, ?_⟩
      have hI204 := hI194.ext e200
      refine s_mv rfl rfl ?_
      refine s_xt rfl rfl rfl ?_
      refine s_xt rfl rfl rfl ?_
      refine y_al hI204 Try.zeroValue45 rfl rfl ?_
      intro b205 w206 hI207 x208
      refine y_st 0 hI207 rfl rfl rfl rfl Try.sizeOf45 rfl rfl (one1 rfl (one1 rfl one0)) ?_
      intro w209 hI210 x211
      have hC213 := hI210.freezeRow 0 rfl
      have hI212 := hI210.erase 0
      refine s_as rfl rfl ?_
      refine Reg.nil ?_
      obtain ⟨j214, h215, h⟩ := bnd h
      refine cw_sub (L := [(9, _), (16, _), (17, _), (18, _), (19, _), (20, _), (21, _)]) (Sub.cons rfl (Sub.cons rfl (Sub.cons rfl (Sub.cons rfl (Sub.cons rfl (Sub.cons rfl (Sub.cons rfl (Sub.nil _)))))))) ?_
      refine cw_seqD 7 (ι := Bool) (fun x216 => [(8, Value.bool x216)]) (fun x216 => fun w217 => Hp w [] M [ownR [] SpanE 45 v90 l156, ownR [] SpanE 45 v81 l144] w217 ∧ Adv (mm [ownR [] SpanE 45 v90 l156, ownR [] SpanE 45 v81 l144] M) (mm [ownR [] SpanE 45 v90 l156, ownR [] SpanE 45 v81 l144] M) w209 w217 ∧ x216 = j214) ?_ ?_
      ·skip
       refine cw_regT fol (by kernel_rfl) ?_
       refine s_mv rfl rfl ?_
       refine s_mv rfl rfl ?_
       refine Reg.gsplit (t := 133) rfl (fun hg220 => ?_) (fun hg220 => ?_)
       ·replace h215 := cdT hg220 h215
        refine Reg.take rfl rfl ?_
        refine s_mv rfl rfl ?_
        refine Reg.take rfl rfl ?_
        refine s_eql rfl rfl rfl ?_
        refine s_pkT rfl rfl rfl ?_
        refine s_mv rfl rfl ?_
        refine Reg.gsplit (t := 137) rfl (fun hg221 => ?_) (fun hg221 => ?_)
        ·replace h215 := cdT hg221 h215
         refine Reg.take rfl rfl ?_
         refine s_mv rfl rfl ?_
         refine Reg.take rfl rfl ?_
         refine s_eql rfl rfl rfl ?_
         refine s_pkT rfl rfl rfl ?_
         refine s_mv rfl rfl ?_
         refine Reg.gsplit (t := 141) rfl (fun hg222 => ?_) (fun hg222 => ?_)
         ·replace h215 := cdT hg222 h215
          refine Reg.take rfl rfl ?_
          refine s_mv rfl rfl ?_
          refine Reg.take rfl rfl ?_
          refine s_eql rfl rfl rfl ?_
          refine s_pkT rfl rfl rfl ?_
          refine s_mv rfl rfl ?_
          refine Reg.gsplit (t := 145) rfl (fun hg223 => ?_) (fun hg223 => ?_)
          ·replace h215 := cdT hg223 h215
           refine Reg.take rfl rfl ?_
           refine s_lda rfl (hC177.adv ((Adv.of_ext e182).trans (x190.trans (x193.trans ((Hp.eraseA (σ := [rowR 45 b187 [Value.int .i64 z178.lo, Value.int .i64 z178.hi], ownR [] SpanE 45 v90 l156, ownR [] SpanE 45 v81 l144]) 0).trans ((Adv.of_ext e200).trans (x208.trans (x211.trans (Hp.eraseA (σ := [rowR 45 b205 [Value.int .i64 z196.lo, Value.int .i64 z196.hi], ownR [] SpanE 45 v90 l156, ownR [] SpanE 45 v81 l144]) 0))))))))).cells Try.isAgg45 rfl Try.sizeOf45 rfl ?_
           refine Reg.take rfl rfl ?_
           refine s_fa rfl Try.underlying45 rfl Try.sizeOf3 rfl ?_
           refine Reg.take rfl rfl ?_
           refine s_ld rfl ((hC195.adv ((Adv.of_ext e200).trans (x208.trans (x211.trans (Hp.eraseA (σ := [rowR 45 b205 [Value.int .i64 z196.lo, Value.int .i64 z196.hi], ownR [] SpanE 45 v90 l156, ownR [] SpanE 45 v81 l144]) 0))))).cells.at 0 rfl) Try.isAgg3 rfl ?_
           refine Reg.take rfl rfl ?_
           refine s_fa rfl Try.underlying45 rfl Try.sizeOf3 rfl ?_
           refine Reg.take rfl rfl ?_
           refine s_ld rfl (hC213.cells.at 0 rfl) Try.isAgg3 rfl ?_
           refine Reg.take rfl rfl ?_
           refine s_min rfl rfl rfl ?_
           refine Reg.take rfl rfl ?_
           refine s_fa rfl Try.underlying45 rfl Try.sizeOf3 rfl ?_
           refine Reg.take rfl rfl ?_
           refine s_ld rfl ((hC195.adv ((Adv.of_ext e200).trans (x208.trans (x211.trans (Hp.eraseA (σ := [rowR 45 b205 [Value.int .i64 z196.lo, Value.int .i64 z196.hi], ownR [] SpanE 45 v90 l156, ownR [] SpanE 45 v81 l144]) 0))))).cells.at 1 rfl) Try.isAgg3 rfl ?_
           refine Reg.take rfl rfl ?_
           refine s_fa rfl Try.underlying45 rfl Try.sizeOf3 rfl ?_
           refine Reg.take rfl rfl ?_
           refine s_ld rfl (hC213.cells.at 1 rfl) Try.isAgg3 rfl ?_
           refine Reg.take rfl rfl ?_
           refine s_max rfl rfl rfl ?_
           refine Reg.take rfl rfl ?_
           obtain ⟨z224, hz225, h215⟩ := bnd h215
           refine s_callq rfl rfl Try.call29 rfl (fun w226 e227 => (C_law06_span (hI212.mlt.ext e227) (InK.imin r183 r201) (InK.imax r184 r202) hz225).mono (fun _ _ hq => ⟨hq.1, hq.2.2.2⟩)) ?_
           have r228 := Calls.fact (C_law06_span hI212.mlt (InK.imin r183 r201) (InK.imax r184 r202) hz225) (fun _ _ hq => hq.2.1)
           have r229 := Calls.fact (C_law06_span hI212.mlt (InK.imin r183 r201) (InK.imax r184 r202) hz225) (fun _ _ hq => hq.2.2.1)
           refine Reg.take rfl rfl ?_
           refine s_eqS (Span_eq (Span.mk z160.lo z160.hi) z224) Try.eqGuardType45 rfl rfl rfl ?_
           refine s_pkT rfl rfl rfl ?_
           refine s_as rfl rfl ?_
           refine Reg.nilq (fun w230 e231 => ?_)
           have hI232 := hI212.ext e231
           obtain rfl := Option.some.inj h215
           refine ⟨rfl, decide ((Span.mk z160.lo z160.hi) = z224), ⟨hI232, (Adv.of_ext e231), rfl⟩, Sub.cons rfl (Sub.nil _)⟩
          ·replace h215 := cdF hg223 h215
           refine Reg.pass rfl rfl rfl rfl ?_
           refine Reg.pass rfl rfl rfl rfl ?_
           refine Reg.pass rfl rfl rfl rfl ?_
           refine Reg.pass rfl rfl rfl rfl ?_
           refine Reg.pass rfl rfl rfl rfl ?_
           refine Reg.pass rfl rfl rfl rfl ?_
           refine Reg.pass rfl rfl rfl rfl ?_
           refine Reg.pass rfl rfl rfl rfl ?_
           refine Reg.pass rfl rfl rfl rfl ?_
           refine Reg.pass rfl rfl rfl rfl ?_
           refine Reg.pass rfl rfl rfl rfl ?_
           refine Reg.pass rfl rfl rfl rfl ?_
           refine Reg.pass rfl rfl rfl rfl ?_
           refine s_pkF rfl rfl rfl ?_
           refine s_as rfl rfl ?_
           refine Reg.nilq (fun w233 e234 => ?_)
           have hI235 := hI212.ext e234
           obtain rfl := Option.some.inj h215
           refine ⟨rfl, false, ⟨hI235, (Adv.of_ext e234), rfl⟩, Sub.cons rfl (Sub.nil _)⟩
         ·replace h215 := cdF hg222 h215
          refine Reg.pass rfl rfl rfl rfl ?_
          refine Reg.pass rfl rfl rfl rfl ?_
          refine s_pkF rfl rfl rfl ?_
          refine s_mv rfl rfl ?_
          refine Reg.pass rfl rfl rfl rfl ?_
          refine Reg.pass rfl rfl rfl rfl ?_
          refine Reg.pass rfl rfl rfl rfl ?_
          refine Reg.pass rfl rfl rfl rfl ?_
          refine Reg.pass rfl rfl rfl rfl ?_
          refine Reg.pass rfl rfl rfl rfl ?_
          refine Reg.pass rfl rfl rfl rfl ?_
          refine Reg.pass rfl rfl rfl rfl ?_
          refine Reg.pass rfl rfl rfl rfl ?_
          refine Reg.pass rfl rfl rfl rfl ?_
          refine Reg.pass rfl rfl rfl rfl ?_
          refine Reg.pass rfl rfl rfl rfl ?_
          refine Reg.pass rfl rfl rfl rfl ?_
          refine s_pkF rfl rfl rfl ?_
          refine s_as rfl rfl ?_
          refine Reg.nilq (fun w236 e237 => ?_)
          have hI238 := hI212.ext e237
          obtain rfl := Option.some.inj h215
          refine ⟨rfl, false, ⟨hI238, (Adv.of_ext e237), rfl⟩, Sub.cons rfl (Sub.nil _)⟩
        ·replace h215 := cdF hg221 h215
         refine Reg.pass rfl rfl rfl rfl ?_
         refine Reg.pass rfl rfl rfl rfl ?_
         refine s_pkF rfl rfl rfl ?_
         refine s_mv rfl rfl ?_
         refine Reg.pass rfl rfl rfl rfl ?_
         refine Reg.pass rfl rfl rfl rfl ?_
         refine s_pkF rfl rfl rfl ?_
         refine s_mv rfl rfl ?_
         refine Reg.pass rfl rfl rfl rfl ?_
         refine Reg.pass rfl rfl rfl rfl ?_
         refine Reg.pass rfl rfl rfl rfl ?_
         refine Reg.pass rfl rfl rfl rfl ?_
         refine Reg.pass rfl rfl rfl rfl ?_
         refine Reg.pass rfl rfl rfl rfl ?_
         refine Reg.pass rfl rfl rfl rfl ?_
         refine Reg.pass rfl rfl rfl rfl ?_
         refine Reg.pass rfl rfl rfl rfl ?_
         refine Reg.pass rfl rfl rfl rfl ?_
         refine Reg.pass rfl rfl rfl rfl ?_
         refine Reg.pass rfl rfl rfl rfl ?_
         refine Reg.pass rfl rfl rfl rfl ?_
         refine s_pkF rfl rfl rfl ?_
         refine s_as rfl rfl ?_
         refine Reg.nilq (fun w239 e240 => ?_)
         have hI241 := hI212.ext e240
         obtain rfl := Option.some.inj h215
         refine ⟨rfl, false, ⟨hI241, (Adv.of_ext e240), rfl⟩, Sub.cons rfl (Sub.nil _)⟩
       ·replace h215 := cdF hg220 h215
        refine Reg.pass rfl rfl rfl rfl ?_
        refine Reg.pass rfl rfl rfl rfl ?_
        refine s_pkF rfl rfl rfl ?_
        refine s_mv rfl rfl ?_
        refine Reg.pass rfl rfl rfl rfl ?_
        refine Reg.pass rfl rfl rfl rfl ?_
        refine s_pkF rfl rfl rfl ?_
        refine s_mv rfl rfl ?_
        refine Reg.pass rfl rfl rfl rfl ?_
        refine Reg.pass rfl rfl rfl rfl ?_
        refine s_pkF rfl rfl rfl ?_
        refine s_mv rfl rfl ?_
        refine Reg.pass rfl rfl rfl rfl ?_
        refine Reg.pass rfl rfl rfl rfl ?_
        refine Reg.pass rfl rfl rfl rfl ?_
        refine Reg.pass rfl rfl rfl rfl ?_
        refine Reg.pass rfl rfl rfl rfl ?_
        refine Reg.pass rfl rfl rfl rfl ?_
        refine Reg.pass rfl rfl rfl rfl ?_
        refine Reg.pass rfl rfl rfl rfl ?_
        refine Reg.pass rfl rfl rfl rfl ?_
        refine Reg.pass rfl rfl rfl rfl ?_
        refine Reg.pass rfl rfl rfl rfl ?_
        refine Reg.pass rfl rfl rfl rfl ?_
        refine Reg.pass rfl rfl rfl rfl ?_
        refine s_pkF rfl rfl rfl ?_
        refine s_as rfl rfl ?_
        refine Reg.nilq (fun w242 e243 => ?_)
        have hI244 := hI212.ext e243
        obtain rfl := Option.some.inj h215
        refine ⟨rfl, false, ⟨hI244, (Adv.of_ext e243), rfl⟩, Sub.cons rfl (Sub.nil _)⟩
      ·skip
       rintro x216 w217 ⟨hI218, hA219, rfl⟩
       refine cw_ret ?_
       obtain rfl := Option.some.inj h
       refine fin1 Try.results9 rfl ?_
       exact ⟨rfl, hI218.kp⟩
end Go.Proofs.Ytecmlmngcnionaa
namespace Go.Proofs.Ytecmlmngcnionaa
open Go Go.Sx
namespace S
section
variable {x : List Span} {i : Nat} {s s' : Span}
theorem in_at (hxi : x[i]? = some s) {y : List Int} : InSpans x y ↔ y.length = x.length ∧ (∀ (j : Nat) a t, j ≠ i → y[j]? = some a → x[j]? = some t → t.lo ≤ a ∧ a ≤ t.hi) ∧ ∀ a, y[i]? = some a → s.lo ≤ a ∧ a ≤ s.hi := by
  constructor
  · rintro ⟨h1, h2⟩
    exact ⟨h1, fun j a t _ ha ht => h2 j a t ha ht, fun a ha => h2 i a s ha hxi⟩
  · rintro ⟨h1, h2, h3⟩
    refine ⟨h1, fun j a t ha ht => ?_⟩
    by_cases e : j = i
    · subst e
      rw [hxi] at ht; cases ht
      exact h3 a ha
    · exact h2 j a t e ha ht
theorem in_set (hxi : x[i]? = some s) {y : List Int} : InSpans (x.set i s') y ↔ y.length = x.length ∧ (∀ (j : Nat) a t, j ≠ i → y[j]? = some a → x[j]? = some t → t.lo ≤ a ∧ a ≤ t.hi) ∧ ∀ a, y[i]? = some a → s'.lo ≤ a ∧ a ≤ s'.hi := by
  have hget : (x.set i s')[i]? = some s' := by rw [List.getElem?_set, if_pos rfl, if_pos (get_lt hxi)]
  rw [in_at hget, List.length_set]
  constructor
  · rintro ⟨h1, h2, h3⟩
    exact ⟨h1, fun j a t e ha ht => h2 j a t e ha (by rw [List.getElem?_set_ne (fun h => e h.symm)]; exact ht), h3⟩
  · rintro ⟨h1, h2, h3⟩
    exact ⟨h1, fun j a t e ha ht => h2 j a t e ha (by rw [List.getElem?_set_ne (fun h => e h.symm)] at ht; exact ht), h3⟩
theorem all_set (hall : x.all okSpan = true) (hs : okSpan s' = true) : (x.set i s').all okSpan = true := (all_iff _ _).2 fun j t ht => by
  rw [List.getElem?_set] at ht
  split at ht
  · split at ht
    · cases ht; exact hs
    · cases ht
  · exact (all_iff _ _).1 hall j t ht
end
theorem p_ScoreReached (m : Model) (x : List Span) (which where_ : Int) (hw : 0 ≤ which ∧ which ≤ 255) (hw2 : 0 ≤ where_ ∧ where_ ≤ 4294967295) : P.law06_ScoreReached m x which where_ = some true := by
  apply Ret.yes
  unfold P.law06_ScoreReached
  rw [show (Model.mk m.traits m.cards m.trees m.need) = m from rfl]
  refine Ret.bind (Ret.val p_alive (Ret.condF rfl (Ret.bind (r_valid (fun hs hm hl => ?_) (Ret.condT rfl (Ret.ok rfl))))))
  refine Ret.condF rfl ?_
  have ht := (modelOk_iff.1 hm).2.1
  have ht1 := (modelOk_iff.1 hm).1
  refine Ret.bind (Ret.loop (fun t : Int => ∃ n : Nat, t = n ∧ n ≤ x.length ∧ ∀ (j : Nat) s, j < n → x[j]? = some s → okSpan s = true) (fun t => x.length - t.toNat) ⟨0, rfl, Nat.zero_le _, fun j s h => by omega⟩ ?_)
  rintro _ ⟨n, rfl, hn, hW⟩
  refine Ret.cond (fun h => ?_) fun h => ?_
  · have hlt : n < x.length := by have := of_decide_eq_true h; omega
    have hxn : x[n]? = some x[n] := List.getElem?_eq_getElem hlt
    generalize x[n] = s at hxn
    refine Ret.bind (Ret.ixo hxn ?_)
    refine Ret.bind (Ret.cond (fun h1 => Ret.ok (Ret.condT rfl (Ret.done (Ret.elimR (Ret.ok rfl))))) fun h1 => ?_)
    refine Ret.cond (fun h2 => Ret.ok (Ret.condT rfl (Ret.done (Ret.elimR (Ret.ok rfl))))) fun h2 => ?_
    refine Ret.ok (Ret.cond (fun h3 => Ret.done (Ret.elimR (Ret.ok rfl))) fun h3 => ?_)
    have h1 := of_decide_eq_false h1
    have h2 := of_decide_eq_false h2
    have h3 := of_decide_eq_false h3
    refine Ret.bind (Ret.chk (by omega) (Ret.next ⟨⟨n + 1, rfl, hlt, fun j s' hj hs' => ?_⟩, by omega⟩))
    by_cases e : j = n
    · subst e
      rw [hxn] at hs'; cases hs'
      exact okSpan_iff.2 ⟨by omega, by omega, by omega⟩
    · exact hW j s' (by omega) hs'
  · have hn2 : n = x.length := by have := of_decide_eq_false h; omega
    subst hn2
    refine Ret.done (Ret.elimL ?_)
    have hall : x.all okSpan = true := (all_iff _ _).2 fun j s hs => hW j s (get_lt hs) hs
    refine Ret.bind (Ret.chk (by omega) (Ret.bind (Ret.remO (by omega) (by omega) ?_)))
    have m1 := mod_in hw.1 (show 0 < (x.length : Int) by omega)
    generalize hi : which % (x.length : Int) = i at m1
    obtain ⟨i, rfl⟩ := Int.eq_ofNat_of_zero_le m1.1
    have hlt : i < x.length := by omega
    have hxi : x[i]? = some x[i] := List.getElem?_eq_getElem hlt
    generalize x[i] = s at hxi
    have hsp := in_get hall hxi
    refine Ret.bind (Ret.appo (by simp; omega) (by simp; omega) (Ret.bind (Ret.appo (by simp; omega) (by simp; omega) ?_)))
    rw [List.nil_append]
    refine Ret.bind (Ret.ixo hxi (Ret.bind (Ret.chk (by omega) (Ret.bind (Ret.ixo hxi (Ret.bind (Ret.ixo hxi (Ret.bind (Ret.chk (by omega) (Ret.bind (Ret.chk (by omega) (Ret.bind (Ret.remO hw2.1 (by omega) ?_)))))))))))))
    have m2 := mod_in hw2.1 (show 0 < s.hi - s.lo + 1 by omega)
    generalize where_ % (s.hi - s.lo + 1) = k at m2
    refine Ret.bind (Ret.chk (by omega) (Ret.bind (Ret.ixo hxi (Ret.cond (fun h => Ret.ok rfl) fun h => ?_))))
    have h := of_decide_eq_false h
    obtain ⟨c, hc⟩ : ∃ c, c = s.lo + k := ⟨_, rfl⟩
    rw [← hc] at h ⊢
    refine Ret.bind (Ret.chk (by omega) (Ret.bind (Ret.ixo hxi (Ret.bind (Ret.seto hlt (Ret.bind (Ret.ixo hxi (Ret.bind (Ret.seto hlt ?_)))))))))
    have hlow : (x.set i (Span.mk s.lo c)).all okSpan = true := all_set hall (okSpan_iff.2 ⟨by simp only; omega, by simp only; omega, by simp only; omega⟩)
    have hhigh : (x.set i (Span.mk (c + 1) s.hi)).all okSpan = true := all_set hall (okSpan_iff.2 ⟨by simp only; omega, by simp only; omega, by simp only; omega⟩)
    refine Ret.bind (r_Between hs hm hl hall fun sa a1 a2 a3 => ?_)
    dsimp only
    refine Ret.bind (r_Between hs hm (by rw [List.length_set]; exact hl) hlow fun sb b1 b2 b3 => ?_)
    dsimp only
    refine Ret.bind (r_Between hs hm (by rw [List.length_set]; exact hl) hhigh fun sc c1 c2 c3 => ?_)
    dsimp only
    have up1 : ∀ y, InSpans (x.set i (Span.mk s.lo c)) y → InSpans x y := fun y hy => by
      obtain ⟨h1, h2, h3⟩ := (in_set hxi).1 hy
      exact (in_at hxi).2 ⟨h1, h2, fun a ha => by have := h3 a ha; simp only at this; omega⟩
    have up2 : ∀ y, InSpans (x.set i (Span.mk (c + 1) s.hi)) y → InSpans x y := fun y hy => by
      obtain ⟨h1, h2, h3⟩ := (in_set hxi).1 hy
      exact (in_at hxi).2 ⟨h1, h2, fun a ha => by have := h3 a ha; simp only at this; omega⟩
    have down : ∀ y, InSpans x y → InSpans (x.set i (Span.mk s.lo c)) y ∨ InSpans (x.set i (Span.mk (c + 1) s.hi)) y := fun y hy => by
      obtain ⟨h1, h2, h3⟩ := (in_at hxi).1 hy
      have hy : y[i]? = some (y[i]'(by omega)) := List.getElem?_eq_getElem (by omega)
      have := h3 _ hy
      by_cases e : y[i]'(by omega) ≤ c
      · exact .inl ((in_set hxi).2 ⟨h1, h2, fun a ha => by rw [hy] at ha; cases ha; simp only; omega⟩)
      · exact .inr ((in_set hxi).2 ⟨h1, h2, fun a ha => by rw [hy] at ha; cases ha; simp only; omega⟩)
    have low : sa.lo = min sb.lo sc.lo := by
      obtain ⟨y1, i1, e1⟩ := a2
      obtain ⟨y2, i2, e2⟩ := b2
      obtain ⟨y3, i3, e3⟩ := c2
      have f2 := a1 y2 (up1 y2 i2)
      have f3 := a1 y3 (up2 y3 i3)
      rcases down y1 i1 with hd | hd
      · have := b1 y1 hd; omega
      · have := c1 y1 hd; omega
    have high : sa.hi = max sb.hi sc.hi := by
      obtain ⟨y1, i1, e1⟩ := a3
      obtain ⟨y2, i2, e2⟩ := b3
      obtain ⟨y3, i3, e3⟩ := c3
      have f2 := a1 y2 (up1 y2 i2)
      have f3 := a1 y3 (up2 y3 i3)
      rcases down y1 i1 with hd | hd
      · have := b1 y1 hd; omega
      · have := c1 y1 hd; omega
    refine Ret.bind (Ret.condT rfl (Ret.condT (decide_eq_true rfl) (Ret.condT (decide_eq_true rfl) (Ret.condT (decide_eq_true rfl) ?_))))
    refine Ret.bind (Ret.val (p_span _ _) (Ret.ok (Ret.ok (decide_eq_true ?_))))
    rw [low, high]
end S
end Go.Proofs.Ytecmlmngcnionaa
