/-
  Part ScoreTrue 1 of the texts that the statement's proof stands on: what memory holds, how code is walked, what the functions reckon. In the order in which they build.
-/

import Derived.Test.YtecmlmngcnionaaSc9
set_option linter.unusedVariables false
set_option maxRecDepth 20000
namespace Go.Proofs.Ytecmlmngcnionaa
open Go Go.Sx Go.RowKit
noncomputable def P.law06_ScoreTrue (m : Model) (x : (List Int)) : Option Bool :=
 Option.bind (P.law06_alive ) fun z7 => cond (!z7) (some false) (Option.bind (P.law06_ready (Model.mk m.traits m.cards m.trees m.need) x) fun z13 => cond (!z13) (some z7) (Option.bind (P.score_Score (Model.mk m.traits m.cards m.trees m.need) x) fun (z19, z20, z21) => Option.bind (P.score_Points (Model.mk m.traits m.cards m.trees m.need) x) fun (z28, z29) => Option.bind (cond (!decide (z21 = 0)) (some true) (cond (!decide (z29 = 0)) (some true) (Option.bind (chk .i64 ((m.cards.length : Int) + (m.trees.length : Int))) fun n39 => some (!decide ((z28.length : Int) = n39))))) fun x40 => cond x40 (some false) (Option.bind (loopM (S := Int × Int) (R := (Int) ⊕ (Bool)) (fun (x42, x43) => cond (decide (x43 < (m.cards.length : Int))) (Option.bind (ixo m.cards x43) fun y45 => Option.bind (loopM (S := Int × Int) (R := (Int)) (fun (x64, x65) => cond (decide (x65 < (y45.scales.length : Int))) (Option.bind (Option.bind (ixo y45.scales x65) fun y67 => Option.bind (ixo x x65) fun y87 => cond (decide (y87 = (-1))) (Option.bind (chk .i64 (x64 + y67.none_)) fun n95 => some n95) (Option.bind (loopM (S := Int) (R := (Int)) (fun x96 => Option.bind (cond (decide (x96 < (y67.cuts.length : Int))) (Option.bind (ixo x x65) fun y98 => Option.bind (ixo y67.cuts x96) fun y105 => some (decide (y105 ≤ y98))) (some false)) fun x118 => cond x118 (Option.bind (chk .i64 (x96 + 1)) fun n120 => some (.inl n120)) (some (.inr x96))) 0) fun x121 => Option.bind (ixo y67.points x121) fun y122 => Option.bind (chk .i64 (x64 + y122)) fun n129 => some n129)) fun x130 => Option.bind (chk .i64 (x65 + 1)) fun n131 => some (.inl (x130, n131))) (some (.inr x64))) (y45.base, 0)) fun x132 => Option.bind (ixo z28 x43) fun y133 => cond (!decide (y133 = x132)) (some (.inr (.inr false))) (Option.bind (chk .i64 (y45.weight * x132)) fun n141 => Option.bind (chk .i64 (x42 + n141)) fun n142 => Option.bind (chk .i64 (x43 + 1)) fun n143 => some (.inl (n142, n143)))) (some (.inr (.inl x42)))) (0, 0)) fun j144 => Sum.elim (fun x145 => Option.bind (loopM (S := Int × Int) (R := (Int) ⊕ (Bool)) (fun (x146, x147) => cond (decide (x147 < (m.trees.length : Int))) (Option.bind (ixo m.trees x147) fun y149 => Option.bind (mko 1 false (y149.nodes.length : Int)) fun l167 => Option.bind (ixo l167 0) fun y172 => Option.bind (seto l167 0 true) fun l178 => Option.bind (loopM (S := Int × Int × (List Bool)) (R := (Int × (List Bool)) ⊕ (Bool)) (fun (x182, x183, x184) => cond (decide (x183 < (y149.nodes.length : Int))) (Option.bind (Option.bind (ixo y149.nodes x183) fun y186 => Option.bind (Option.bind (ixo x184 x183) fun y206 => Option.bind (cond (!y206) (some (.inl (x182, x184))) (Option.bind (cond (decide (y186.trait = (-1))) (Option.bind (chk .i64 ((m.cards.length : Int) + x147)) fun n214 => Option.bind (ixo z28 n214) fun y215 => cond (!decide (y215 = y186.points)) (some (.inr false)) (Option.bind (chk .i64 (y149.weight * y186.points)) fun n226 => Option.bind (chk .i64 (x182 + n226)) fun n227 => some (.inl (n227, x184)))) (Option.bind (ixo x y186.trait) fun y228 => Option.bind (cond (decide (y186.cut ≤ y228)) (Option.bind (ixo x184 y186.high) fun y239 => Option.bind (seto x184 y186.high true) fun l245 => some l245) (Option.bind (ixo x184 y186.low) fun y249 => Option.bind (seto x184 y186.low true) fun l255 => some l255)) fun x259 => some (.inl (x182, x259)))) fun j260 => Sum.elim (fun (x261, x262) => some (.inl (x261, x262))) (fun r263 => some (.inr r263))  j260)) fun j264 => Sum.elim (fun (x265, x266) => some (.inl (x265, x266))) (fun r267 => some (.inr r267))  j264) fun j268 => Sum.elim (fun (x269, x270) => some (.inl (x269, x270))) (fun r271 => some (.inr r271))  j268) fun j272 => Sum.elim (fun (x273, x274) => Option.bind (chk .i64 (x183 + 1)) fun n275 => some (.inl (x273, n275, x274))) (fun r276 => some (.inr (.inr r276)))  j272) (some (.inr (.inl (x182, x184))))) (x146, 0, l178)) fun j277 => Sum.elim (fun (x278, x279) => Option.bind (chk .i64 (x147 + 1)) fun n280 => some (.inl (x278, n280))) (fun r281 => some (.inr (.inr r281)))  j277) (some (.inr (.inl x146)))) (x145, 0)) fun j282 => Sum.elim (fun x283 => Option.bind (cond z7 (cond (decide (z19 = x283)) (Option.bind (chk .i64 (m.need * 1000)) fun n286 => some (z20 == decide (n286 ≤ x283))) (some false)) (some false)) fun x287 => some x287) (fun r288 => some r288)  j282) (fun r289 => some r289)  j144)))
theorem C_law06_ScoreTrue {M : List Nat} {w : World} (hM : MLt M w) {m : Model} {v_m_1 : Value} {v_m_2 : Value} (f_m_0 : InK .i64 m.traits) (f_m_1 : RdS CardE M w v_m_1 m.cards) (f_m_2 : RdS TreeE M w v_m_2 m.trees) (f_m_3 : InK .i64 m.need) {x : (List Int)} {v_x_0 : Value} (f_x_0 : RdS (intE .i64) M w v_x_0 x) {r0 : Bool} (h : P.law06_ScoreTrue m x = some r0) :
  Calls Try.prog 5 (List.toArray [Value.agg (List.toArray [Value.int .i64 m.traits, v_m_1, v_m_2, Value.int .i64 m.need]), v_x_0]) w fun e w' => e = .returned (Value.bool r0) ∧ Ext w w' := by
 have hI := Hp.start (Mu := []) hM
 refine calls_cw Try.func5 rfl Try.ntmps5 rfl ?_
 refine cw_seq (cw_regF ?_)
 refine y_box hI rfl rfl rfl ?_
 intro b1 w2 hI3 x4
 have hC6 := hI3.freezeRow 0 rfl
 have hI5 := hI3.erase 0
 refine s_as rfl rfl ?_
 refine Reg.nil ?_
 refine cw_seq (cw_regF ?_)
 obtain ⟨z7, hz8, h⟩ := bnd h
 refine s_call rfl Try.call24 rfl ?_
 refine (C_law06_alive hI5.mlt hz8).mono ?_
 rintro _ w9 ⟨rfl, e10⟩
 refine ⟨_, rfl, ?_⟩
 have hI11 := hI5.ext e10
 refine s_as rfl rfl ?_
 refine Reg.nil ?_
 refine cw_seq (cw_seq (cw_regF ?_))
 refine s_mv rfl rfl ?_
 refine s_not rfl rfl ?_
 refine Reg.nil ?_
 refine cw_cond rfl (fun hc12 => ?_) (fun hc12 => ?_)
 ·replace h := cdT hc12 h
  refine cw_seq (cw_regF ?_)
  refine s_as rfl rfl ?_
  refine Reg.nil ?_
  refine cw_ret ?_
  obtain rfl := Option.some.inj h
  refine fin1 Try.results5 rfl ?_
  exact ⟨rfl, hI11.kp⟩
 ·replace h := cdF hc12 h
  refine cw_skip (cw_seq (cw_seq (cw_regF ?_)))
  refine s_lda rfl (hC6.adv (Adv.of_ext e10)).cells Try.isAgg25 rfl Try.sizeOf25 rfl ?_
  refine s_mv rfl rfl ?_
  obtain ⟨z13, hz14, h⟩ := bnd h
  refine s_call rfl Try.call25 rfl ?_
  refine (C_law06_ready hI11.mlt f_m_0 (f_m_1.adv hI11.adv) (f_m_2.adv hI11.adv) f_m_3 (f_x_0.adv hI11.adv) hz14).mono ?_
  rintro _ w15 ⟨rfl, e16⟩
  refine ⟨_, rfl, ?_⟩
  have hI17 := hI11.ext e16
  refine s_not rfl rfl ?_
  refine Reg.nil ?_
  refine cw_cond rfl (fun hc18 => ?_) (fun hc18 => ?_)
  ·replace h := cdT hc18 h
   refine cw_seq (cw_regF ?_)
   refine s_mv rfl rfl ?_
   refine s_as rfl rfl ?_
   refine Reg.nil ?_
   refine cw_ret ?_
   obtain rfl := Option.some.inj h
   refine fin1 Try.results5 rfl ?_
   exact ⟨rfl, hI17.kp⟩
  ·replace h := cdF hc18 h
   refine cw_skip (cw_seq (cw_regF ?_))
   refine s_lda rfl (hC6.adv ((Adv.of_ext e10).trans (Adv.of_ext e16))).cells Try.isAgg25 rfl Try.sizeOf25 rfl ?_
   refine s_mv rfl rfl ?_
   obtain ⟨⟨z19, z20, z21⟩, hz22, h⟩ := bnd h
   refine s_call rfl Try.call14 rfl ?_
   refine (C_score_Score hI17.mlt f_m_0 (f_m_1.adv hI17.adv) (f_m_2.adv hI17.adv) f_m_3 (f_x_0.adv hI17.adv) hz22).mono ?_
   rintro _ w23 ⟨rfl, r25, r26, e24⟩
   refine ⟨_, rfl, ?_⟩
   have hI27 := hI17.ext e24
   refine s_mv rfl rfl ?_
   refine s_xt rfl rfl rfl ?_
   refine s_xt rfl rfl rfl ?_
   refine s_xt rfl rfl rfl ?_
   refine s_as rfl rfl ?_
   refine s_as rfl rfl ?_
   refine s_as rfl rfl ?_
   refine Reg.nil ?_
   refine cw_seq (cw_regF ?_)
   refine s_lda rfl (hC6.adv ((Adv.of_ext e10).trans ((Adv.of_ext e16).trans (Adv.of_ext e24)))).cells Try.isAgg25 rfl Try.sizeOf25 rfl ?_
   refine s_mv rfl rfl ?_
   obtain ⟨⟨z28, z29⟩, hz30, h⟩ := bnd h
   refine s_call rfl Try.call16 rfl ?_
   refine (C_score_Points hI27.mlt f_m_0 (f_m_1.adv hI27.adv) (f_m_2.adv hI27.adv) f_m_3 (f_x_0.adv hI27.adv) hz30).mono ?_
   rintro _ w31 ⟨v33, rfl, hf34, r35, e32⟩
   refine ⟨_, rfl, ?_⟩
   have hI36 := hI27.addOwn e32 hf34
   refine s_mv rfl rfl ?_
   refine s_xt rfl rfl rfl ?_
   refine s_xt rfl rfl rfl ?_
   refine s_as rfl rfl ?_
   refine s_as rfl rfl ?_
   refine Reg.nil ?_
   refine cw_seq ?_
   obtain ⟨j37, h38, h⟩ := bnd h
   refine cw_sub (L := [(8, _), (10, _), (1, _), (2, _), (5, _), (6, _), (7, _), (9, _)]) (Sub.cons rfl (Sub.cons rfl (Sub.cons rfl (Sub.cons rfl (Sub.cons rfl (Sub.cons rfl (Sub.cons rfl (Sub.cons rfl (Sub.nil _))))))))) ?_
   refine cw_seqD 2 (ι := Bool) (fun x39 => [(61, Value.bool x39)]) (fun x39 => fun w40 => w31 = w40 ∧ x39 = j37) ?_ ?_
   ·skip
    refine cw_regF ?_
    refine s_mv rfl rfl ?_
    refine s_neq rfl rfl rfl ?_
    refine s_mv rfl rfl ?_
    refine Reg.gsplit (t := 46) rfl (fun hg43 => ?_) (fun hg43 => ?_)
    ·replace h38 := cdT hg43 h38
     refine Reg.pass rfl rfl rfl rfl ?_
     refine Reg.pass rfl rfl rfl rfl ?_
     refine s_pkT rfl rfl rfl ?_
     refine s_mv rfl rfl ?_
     refine Reg.pass rfl rfl rfl rfl ?_
     refine Reg.pass rfl rfl rfl rfl ?_
     refine Reg.pass rfl rfl rfl rfl ?_
     refine Reg.pass rfl rfl rfl rfl ?_
     refine Reg.pass rfl rfl rfl rfl ?_
     refine Reg.pass rfl rfl rfl rfl ?_
     refine Reg.pass rfl rfl rfl rfl ?_
     refine Reg.pass rfl rfl rfl rfl ?_
     refine Reg.pass rfl rfl rfl rfl ?_
     refine Reg.pass rfl rfl rfl rfl ?_
     refine s_pkT rfl rfl rfl ?_
     refine Reg.nil ?_
     obtain rfl := Option.some.inj h38
     refine ⟨rfl, true, ⟨rfl, rfl⟩, Sub.cons rfl (Sub.cons rfl (Sub.cons rfl (Sub.cons rfl (Sub.cons rfl (Sub.cons rfl (Sub.cons rfl (Sub.nil _)))))))⟩
    ·replace h38 := cdF hg43 h38
     refine Reg.take rfl rfl ?_
     refine s_mv rfl rfl ?_
     refine Reg.take rfl rfl ?_
     refine s_neq rfl rfl rfl ?_
     refine s_pkF rfl rfl rfl ?_
     refine s_mv rfl rfl ?_
     refine Reg.gsplit (t := 50) rfl (fun hg44 => ?_) (fun hg44 => ?_)
     ·replace h38 := cdT hg44 h38
      refine Reg.pass rfl rfl rfl rfl ?_
      refine Reg.pass rfl rfl rfl rfl ?_
      refine Reg.pass rfl rfl rfl rfl ?_
      refine Reg.pass rfl rfl rfl rfl ?_
      refine Reg.pass rfl rfl rfl rfl ?_
      refine Reg.pass rfl rfl rfl rfl ?_
      refine Reg.pass rfl rfl rfl rfl ?_
      refine Reg.pass rfl rfl rfl rfl ?_
      refine Reg.pass rfl rfl rfl rfl ?_
      refine Reg.pass rfl rfl rfl rfl ?_
      refine s_pkT rfl rfl rfl ?_
      refine Reg.nil ?_
      obtain rfl := Option.some.inj h38
      refine ⟨rfl, true, ⟨rfl, rfl⟩, Sub.cons rfl (Sub.cons rfl (Sub.cons rfl (Sub.cons rfl (Sub.cons rfl (Sub.cons rfl (Sub.cons rfl (Sub.nil _)))))))⟩
     ·replace h38 := cdF hg44 h38
      refine Reg.take rfl rfl ?_
      refine s_mv rfl rfl ?_
      refine Reg.take rfl rfl ?_
      refine s_lenO rfl (hI36.ownAt 0 rfl) Try.underlying26 rfl ?_
      refine Reg.take rfl rfl ?_
      refine s_fa rfl Try.underlying25 rfl Try.sizeOf22 rfl ?_
      refine Reg.take rfl rfl ?_
      refine s_ld rfl ((hC6.adv ((Adv.of_ext e10).trans ((Adv.of_ext e16).trans ((Adv.of_ext e24).trans (hI27.addOwnA e32 hf34))))).cells.at 1 rfl) Try.isAgg22 rfl ?_
      refine Reg.take rfl rfl ?_
      refine s_len rfl (f_m_1.adv hI36.adv) Try.underlying22 rfl ?_
      refine Reg.take rfl rfl ?_
      refine s_fa rfl Try.underlying25 rfl Try.sizeOf23 rfl ?_
      refine Reg.take rfl rfl ?_
      refine s_ld rfl ((hC6.adv ((Adv.of_ext e10).trans ((Adv.of_ext e16).trans ((Adv.of_ext e24).trans (hI27.addOwnA e32 hf34))))).cells.at 2 rfl) Try.isAgg23 rfl ?_
      refine Reg.take rfl rfl ?_
      refine s_len rfl (f_m_2.adv hI36.adv) Try.underlying23 rfl ?_
      refine Reg.take rfl rfl ?_
      obtain ⟨n45, hn45, h38⟩ := bnd h38
      replace hn45 := chk_out hn45
      refine p_add rfl rfl rfl hn45 ?_
      refine Reg.take rfl rfl ?_
      refine s_neq rfl rfl rfl ?_
      refine s_pkF rfl rfl rfl ?_
      refine Reg.nil ?_
      obtain rfl := Option.some.inj h38
      refine ⟨rfl, !decide ((z28.length : Int) = n45), ⟨rfl, rfl⟩, Sub.cons rfl (Sub.cons rfl (Sub.cons rfl (Sub.cons rfl (Sub.cons rfl (Sub.cons rfl (Sub.cons rfl (Sub.nil _)))))))⟩
   ·skip
    rintro x39 _ ⟨rfl, rfl⟩
    refine cw_cond rfl (fun hc46 => ?_) (fun hc46 => ?_)
    ·replace h := cdT hc46 h
     refine cw_seq (cw_regF ?_)
     refine s_as rfl rfl ?_
     refine Reg.nil ?_
     refine cw_ret ?_
     obtain rfl := Option.some.inj h
     refine fin1 Try.results5 rfl ?_
     exact ⟨rfl, hI36.kp⟩
    ·replace h := cdF hc46 h
     refine cw_skip (cw_seq (cw_regF ?_))
     refine s_as rfl rfl ?_
     refine Reg.nil ?_
     refine cw_seq (cw_seq (cw_regF ?_))
     refine s_fa rfl Try.underlying25 rfl Try.sizeOf22 rfl ?_
     refine s_ld rfl ((hC6.adv ((Adv.of_ext e10).trans ((Adv.of_ext e16).trans ((Adv.of_ext e24).trans (hI27.addOwnA e32 hf34))))).cells.at 1 rfl) Try.isAgg22 rfl ?_
     refine s_len rfl (f_m_1.adv hI36.adv) Try.underlying22 rfl ?_
     refine s_mv rfl rfl ?_
     refine Reg.nil ?_
     obtain ⟨j47, h48, h⟩ := bnd h
     refine cw_sub (L := [(11, _), (63, _), (64, _), (65, _), (1, _), (2, _), (5, _), (6, _), (7, _), (9, _)]) (Sub.cons rfl (Sub.cons rfl (Sub.cons rfl (Sub.cons rfl (Sub.cons rfl (Sub.cons rfl (Sub.cons rfl (Sub.cons rfl (Sub.cons rfl (Sub.cons rfl (Sub.nil _))))))))))) ?_
     refine cw_unitD 4 (ι := Int) (fun x49 => [(11, Value.int .i64 x49)]) (fun x49 => fun w51 => Hp w [] M [ownR [] (intE .i64) 3 v33 z28] w51 ∧ Adv (mm [ownR [] (intE .i64) 3 v33 z28] M) (mm [ownR [] (intE .i64) 3 v33 z28] M) w31 w51 ∧ InK .i64 x49 ∧ (.inl x49) = j47) ?_ ?_
     ·skip
      refine cw_block ?_
      refine cw_sub (L := [(11, _), (65, _), (1, _), (2, _), (5, _), (6, _), (7, _), (9, _), (63, _), (64, _)]) (Sub.cons rfl (Sub.cons rfl (Sub.cons rfl (Sub.cons rfl (Sub.cons rfl (Sub.cons rfl (Sub.cons rfl (Sub.cons rfl (Sub.cons rfl (Sub.cons rfl (Sub.nil _))))))))))) ?_
      refine cw_loopM 2 (ι := Int × Int) _ (fun ⟨x54, x56⟩ => [(11, Value.int .i64 x54), (65, Value.int .i64 x56)]) (fun ⟨x54, x56⟩ => (x54, x56)) (fun ⟨x54, x56⟩ => fun w58 => Hp w [] M [ownR [] (intE .i64) 3 v33 z28] w58 ∧ Adv (mm [ownR [] (intE .i64) 3 v33 z28] M) (mm [ownR [] (intE .i64) 3 v33 z28] M) w31 w58 ∧ InK .i64 x54 ∧ InK .i64 x56) (0, 0) h48 ⟨hI36, (Adv.refl _ _), (by decide), (by decide)⟩ (Sub.cons rfl (Sub.cons rfl (Sub.cons rfl (Sub.cons rfl (Sub.cons rfl (Sub.cons rfl (Sub.cons rfl (Sub.cons rfl (Sub.cons rfl (Sub.cons rfl (Sub.nil _))))))))))) ?_
      rintro ⟨x54, x56⟩ w58 ⟨hI59, hA60, r55, r57⟩ y61 h62 hR63
      refine cw_seq (cw_regF ?_)
      refine s_lss rfl rfl rfl ?_
      refine Reg.nil ?_
      refine cw_seq ?_
      refine cw_cond rfl (fun hc64 => ?_) (fun hc64 => ?_)
      ·replace h62 := cdT hc64 h62
       refine cw_skip ?_
       refine cw_seq ?_
       refine cw_block ?_
       refine cw_seq (cw_regF ?_)
       refine s_mv rfl rfl ?_
       obtain ⟨y65, hy65, h62⟩ := bnd h62
       refine p_ia rfl rfl (f_m_1.adv hI59.adv) hy65 Try.underlying22 Try.sizeOf54 rfl ?_
       intro b66 o67 cs68 hR69 hC70
       obtain ⟨v73, rfl, r71, r72, hf74⟩ := CardE_R.1 hR69
       refine s_lda rfl hC70.cells Try.isAgg54 rfl Try.sizeOf54 rfl ?_
       refine y_al hI59 Try.zeroValue54 rfl rfl ?_
       intro b75 w76 hI77 x78
       refine s_as rfl rfl ?_
       refine y_st 0 hI77 rfl rfl rfl rfl Try.sizeOf54 rfl rfl (one1 rfl (one1 rfl (one1 (RdS.oneC hf74) one0))) ?_
       intro w79 hI80 x81
       have hC83 := hI80.freezeRow 0 rfl
       have hI82 := hI80.erase 0
       refine Reg.nil ?_
       refine cw_seq (cw_regF ?_)
       refine s_fa rfl Try.underlying54 rfl Try.sizeOf3 rfl ?_
       refine s_ld rfl (hC83.cells.at 1 rfl) Try.isAgg3 rfl ?_
       refine s_as rfl rfl ?_
       refine Reg.nil ?_
       refine cw_seq (cw_seq (cw_regF ?_))
       refine s_fa rfl Try.underlying54 rfl Try.sizeOf52 rfl ?_
       refine s_ld rfl (hC83.cells.at 2 rfl) Try.isAgg52 rfl ?_
       refine s_len rfl (hf74.adv (x78.trans (x81.trans (Hp.eraseA (σ := [rowR 54 b75 [Value.int .i64 y65.weight, Value.int .i64 y65.base, v73], ownR [] (intE .i64) 3 v33 z28]) 0)))) Try.underlying52 rfl ?_
       refine s_mv rfl rfl ?_
       refine Reg.nil ?_
       obtain ⟨j84, h85, h62⟩ := bnd h62
       refine cw_sub (L := [(14, _), (73, _), (74, _), (75, _), (1, _), (2, _), (5, _), (6, _), (7, _), (9, _), (11, _), (12, _), (13, _), (63, _), (64, _), (65, _)]) (Sub.cons rfl (Sub.cons rfl (Sub.cons rfl (Sub.cons rfl (Sub.cons rfl (Sub.cons rfl (Sub.cons rfl (Sub.cons rfl (Sub.cons rfl (Sub.cons rfl (Sub.cons rfl (Sub.cons rfl (Sub.cons rfl (Sub.cons rfl (Sub.cons rfl (Sub.cons rfl (Sub.nil _))))))))))))))))) ?_
       refine cw_unitD 4 (ι := Int) (fun x86 => [(14, Value.int .i64 x86)]) (fun x86 => fun w88 => Hp w [] M [ownR [] (intE .i64) 3 v33 z28] w88 ∧ Adv (mm [ownR [] (intE .i64) 3 v33 z28] M) (mm [ownR [] (intE .i64) 3 v33 z28] M) w79 w88 ∧ InK .i64 x86 ∧ x86 = j84) ?_ ?_
       ·skip
        refine cw_block ?_
        refine cw_sub (L := [(14, _), (75, _), (1, _), (2, _), (5, _), (6, _), (7, _), (9, _), (11, _), (12, _), (13, _), (63, _), (64, _), (65, _), (73, _), (74, _)]) (Sub.cons rfl (Sub.cons rfl (Sub.cons rfl (Sub.cons rfl (Sub.cons rfl (Sub.cons rfl (Sub.cons rfl (Sub.cons rfl (Sub.cons rfl (Sub.cons rfl (Sub.cons rfl (Sub.cons rfl (Sub.cons rfl (Sub.cons rfl (Sub.cons rfl (Sub.cons rfl (Sub.nil _))))))))))))))))) ?_
        refine cw_loopM 2 (ι := Int × Int) _ (fun ⟨x91, x93⟩ => [(14, Value.int .i64 x91), (75, Value.int .i64 x93)]) (fun ⟨x91, x93⟩ => (x91, x93)) (fun ⟨x91, x93⟩ => fun w95 => Hp w [] M [ownR [] (intE .i64) 3 v33 z28] w95 ∧ Adv (mm [ownR [] (intE .i64) 3 v33 z28] M) (mm [ownR [] (intE .i64) 3 v33 z28] M) w79 w95 ∧ InK .i64 x91 ∧ InK .i64 x93) (y65.base, 0) h85 ⟨hI82, (Adv.refl _ _), r72, (by decide)⟩ (Sub.cons rfl (Sub.cons rfl (Sub.cons rfl (Sub.cons rfl (Sub.cons rfl (Sub.cons rfl (Sub.cons rfl (Sub.cons rfl (Sub.cons rfl (Sub.cons rfl (Sub.cons rfl (Sub.cons rfl (Sub.cons rfl (Sub.cons rfl (Sub.cons rfl (Sub.cons rfl (Sub.nil _))))))))))))))))) ?_
        rintro ⟨x91, x93⟩ w95 ⟨hI96, hA97, r92, r94⟩ y98 h99 hR100
        refine cw_seq (cw_regF ?_)
        refine s_lss rfl rfl rfl ?_
        refine Reg.nil ?_
        refine cw_seq ?_
        refine cw_cond rfl (fun hc101 => ?_) (fun hc101 => ?_)
        ·replace h99 := cdT hc101 h99
         refine cw_skip ?_
         obtain ⟨j102, h103, h99⟩ := bnd h99
         refine cw_sub (L := [(14, _), (1, _), (2, _), (5, _), (6, _), (7, _), (9, _), (11, _), (12, _), (13, _), (63, _), (64, _), (65, _), (73, _), (74, _), (75, _)]) (Sub.cons rfl (Sub.cons rfl (Sub.cons rfl (Sub.cons rfl (Sub.cons rfl (Sub.cons rfl (Sub.cons rfl (Sub.cons rfl (Sub.cons rfl (Sub.cons rfl (Sub.cons rfl (Sub.cons rfl (Sub.cons rfl (Sub.cons rfl (Sub.cons rfl (Sub.cons rfl (Sub.nil _))))))))))))))))) ?_
         refine cw_seqD 1 (ι := Int) (fun x104 => [(14, Value.int .i64 x104)]) (fun x104 => fun w106 => Hp w [] M [ownR [] (intE .i64) 3 v33 z28] w106 ∧ Adv (mm [ownR [] (intE .i64) 3 v33 z28] M) (mm [ownR [] (intE .i64) 3 v33 z28] M) w95 w106 ∧ InK .i64 x104 ∧ x104 = j102) ?_ ?_
         ·skip
          refine cw_block ?_
          refine cw_seq (cw_regF ?_)
          refine s_mv rfl rfl ?_
          obtain ⟨y109, hy109, h103⟩ := bnd h103
          refine p_ia rfl rfl (hf74.adv (x78.trans (x81.trans ((Hp.eraseA (σ := [rowR 54 b75 [Value.int .i64 y65.weight, Value.int .i64 y65.base, v73], ownR [] (intE .i64) 3 v33 z28]) 0).trans hA97)))) hy109 Try.underlying52 Try.sizeOf56 rfl ?_
          intro b110 o111 cs112 hR113 hC114
          obtain ⟨v115, v117, rfl, hf116, hf118, r119⟩ := ScaleE_R.1 hR113
          refine s_lda rfl hC114.cells Try.isAgg56 rfl Try.sizeOf56 rfl ?_
          refine y_al hI96 Try.zeroValue56 rfl rfl ?_
          intro b120 w121 hI122 x123
          refine s_as rfl rfl ?_
          refine y_st 0 hI122 rfl rfl rfl rfl Try.sizeOf56 rfl rfl (one1 (RdS.oneC hf116) (one1 (RdS.oneC hf118) (one1 rfl one0))) ?_
          intro w124 hI125 x126
          have hC128 := hI125.freezeRow 0 rfl
          have hI127 := hI125.erase 0
          refine Reg.nil ?_
          refine cw_seq (cw_seq (cw_regF ?_))
          refine s_mv rfl rfl ?_
          refine s_mv rfl rfl ?_
          obtain ⟨y129, hy129, h103⟩ := bnd h103
          refine p_ia rfl rfl (f_x_0.adv hI127.adv) hy129 Try.underlying26 Try.sizeOf3 rfl ?_
          intro b130 o131 cs132 hR133 hC134
          obtain ⟨rfl, r135⟩ := hR133
          refine s_ld rfl (hC134.cells.at 0 rfl) Try.isAgg3 rfl ?_
          refine s_eql rfl rfl rfl ?_
          refine Reg.nil ?_
          refine cw_cond rfl (fun hc136 => ?_) (fun hc136 => ?_)
          ·replace h103 := cdT hc136 h103
           refine cw_seq (cw_regF ?_)
           refine s_mv rfl rfl ?_
           refine s_fa rfl Try.underlying56 rfl Try.sizeOf3 rfl ?_
           refine s_ld rfl (hC128.cells.at 2 rfl) Try.isAgg3 rfl ?_
           obtain ⟨n137, hn137, h103⟩ := bnd h103
           replace hn137 := chk_out hn137
           refine p_add rfl rfl rfl hn137 ?_
           refine s_as rfl rfl ?_
           refine Reg.nil ?_
           refine cw_exit ?_
           refine exB_same ?_
           obtain rfl := Option.some.inj h103
           refine ⟨rfl, n137, ⟨hI127, (x123.trans (x126.trans (Hp.eraseA (σ := [rowR 56 b120 [v115, v117, Value.int .i64 y109.none_], ownR [] (intE .i64) 3 v33 z28]) 0))), hn137.2, rfl⟩, Sub.cons rfl (Sub.cons rfl (Sub.cons rfl (Sub.cons rfl (Sub.cons rfl (Sub.cons rfl (Sub.cons rfl (Sub.cons rfl (Sub.cons rfl (Sub.cons rfl (Sub.cons rfl (Sub.cons rfl (Sub.cons rfl (Sub.cons rfl (Sub.cons rfl (Sub.cons rfl (Sub.nil _))))))))))))))))⟩
          ·replace h103 := cdF hc136 h103
           refine cw_skip (cw_seq (cw_regF ?_))
           refine s_as rfl rfl ?_
           refine Reg.nil ?_
           obtain ⟨j138, h139, h103⟩ := bnd h103
           refine cw_sub (L := [(15, _), (17, _), (1, _), (2, _), (5, _), (6, _), (7, _), (9, _), (11, _), (12, _), (13, _), (14, _), (16, _), (63, _), (64, _), (65, _), (73, _), (74, _), (75, _)]) (Sub.cons rfl (Sub.cons rfl (Sub.cons rfl (Sub.cons rfl (Sub.cons rfl (Sub.cons rfl (Sub.cons rfl (Sub.cons rfl (Sub.cons rfl (Sub.cons rfl (Sub.cons rfl (Sub.cons rfl (Sub.cons rfl (Sub.cons rfl (Sub.cons rfl (Sub.cons rfl (Sub.cons rfl (Sub.cons rfl (Sub.cons rfl (Sub.nil _)))))))))))))))))))) ?_
           refine cw_seqD 2 (ι := Int) (fun x140 => [(17, Value.int .i64 x140)]) (fun x140 => fun w142 => Hp w [] M [ownR [] (intE .i64) 3 v33 z28] w142 ∧ Adv (mm [ownR [] (intE .i64) 3 v33 z28] M) (mm [ownR [] (intE .i64) 3 v33 z28] M) w124 w142 ∧ InK .i64 x140 ∧ x140 = j138) ?_ ?_
           ·skip
            refine cw_block ?_
            refine cw_sub (L := [(17, _), (1, _), (2, _), (5, _), (6, _), (7, _), (9, _), (11, _), (12, _), (13, _), (14, _), (15, _), (16, _), (63, _), (64, _), (65, _), (73, _), (74, _), (75, _)]) (Sub.cons rfl (Sub.cons rfl (Sub.cons rfl (Sub.cons rfl (Sub.cons rfl (Sub.cons rfl (Sub.cons rfl (Sub.cons rfl (Sub.cons rfl (Sub.cons rfl (Sub.cons rfl (Sub.cons rfl (Sub.cons rfl (Sub.cons rfl (Sub.cons rfl (Sub.cons rfl (Sub.cons rfl (Sub.cons rfl (Sub.cons rfl (Sub.nil _)))))))))))))))))))) ?_
            refine cw_loopM 1 (ι := Int) _ (fun x145 => [(17, Value.int .i64 x145)]) (fun x145 => x145) (fun x145 => fun w147 => Hp w [] M [ownR [] (intE .i64) 3 v33 z28] w147 ∧ Adv (mm [ownR [] (intE .i64) 3 v33 z28] M) (mm [ownR [] (intE .i64) 3 v33 z28] M) w124 w147 ∧ InK .i64 x145) 0 h139 ⟨hI127, (Adv.refl _ _), (by decide)⟩ (Sub.cons rfl (Sub.cons rfl (Sub.cons rfl (Sub.cons rfl (Sub.cons rfl (Sub.cons rfl (Sub.cons rfl (Sub.cons rfl (Sub.cons rfl (Sub.cons rfl (Sub.cons rfl (Sub.cons rfl (Sub.cons rfl (Sub.cons rfl (Sub.cons rfl (Sub.cons rfl (Sub.cons rfl (Sub.cons rfl (Sub.cons rfl (Sub.nil _)))))))))))))))))))) ?_
            rintro x145 w147 ⟨hI148, hA149, r146⟩ y150 h151 hR152
            refine cw_seq ?_
            obtain ⟨j153, h154, h151⟩ := bnd h151
            refine cw_sub (L := [(1, _), (2, _), (5, _), (6, _), (7, _), (9, _), (11, _), (12, _), (13, _), (14, _), (15, _), (16, _), (17, _), (63, _), (64, _), (65, _), (73, _), (74, _), (75, _)]) (Sub.cons rfl (Sub.cons rfl (Sub.cons rfl (Sub.cons rfl (Sub.cons rfl (Sub.cons rfl (Sub.cons rfl (Sub.cons rfl (Sub.cons rfl (Sub.cons rfl (Sub.cons rfl (Sub.cons rfl (Sub.cons rfl (Sub.cons rfl (Sub.cons rfl (Sub.cons rfl (Sub.cons rfl (Sub.cons rfl (Sub.cons rfl (Sub.nil _)))))))))))))))))))) ?_
            refine cw_seqD 0 (ι := Bool) (fun x155 => [(105, Value.bool x155)]) (fun x155 => fun w156 => Hp w [] M [ownR [] (intE .i64) 3 v33 z28] w156 ∧ Adv (mm [ownR [] (intE .i64) 3 v33 z28] M) (mm [ownR [] (intE .i64) 3 v33 z28] M) w147 w156 ∧ x155 = j153) ?_ ?_
            ·skip
             refine cw_regT fol (by kernel_rfl) ?_
             refine s_mv rfl rfl ?_
             refine s_fa rfl Try.underlying56 rfl Try.sizeOf26 rfl ?_
             refine s_ld rfl ((hC128.adv hA149).cells.at 0 rfl) Try.isAgg26 rfl ?_
             refine s_len rfl (hf116.adv (x123.trans (x126.trans ((Hp.eraseA (σ := [rowR 56 b120 [v115, v117, Value.int .i64 y109.none_], ownR [] (intE .i64) 3 v33 z28]) 0).trans hA149)))) Try.underlying26 rfl ?_
             refine s_lss rfl rfl rfl ?_
             refine s_mv rfl rfl ?_
             refine Reg.gsplit (t := 94) rfl (fun hg159 => ?_) (fun hg159 => ?_)
             ·replace h154 := cdT hg159 h154
              refine Reg.take rfl rfl ?_
              refine s_mv rfl rfl ?_
              refine Reg.take rfl rfl ?_
              refine s_mv rfl rfl ?_
              refine Reg.take rfl rfl ?_
              obtain ⟨y160, hy160, h154⟩ := bnd h154
              refine p_ia rfl rfl (f_x_0.adv hI148.adv) hy160 Try.underlying26 Try.sizeOf3 rfl ?_
              intro b161 o162 cs163 hR164 hC165
              obtain ⟨rfl, r166⟩ := hR164
              refine Reg.take rfl rfl ?_
              refine s_ld rfl (hC165.cells.at 0 rfl) Try.isAgg3 rfl ?_
              refine Reg.take rfl rfl ?_
              refine s_fa rfl Try.underlying56 rfl Try.sizeOf26 rfl ?_
              refine Reg.take rfl rfl ?_
              refine s_ld rfl ((hC128.adv hA149).cells.at 0 rfl) Try.isAgg26 rfl ?_
              refine Reg.take rfl rfl ?_
              refine s_mv rfl rfl ?_
              refine Reg.take rfl rfl ?_
              obtain ⟨y167, hy167, h154⟩ := bnd h154
              refine p_ia rfl rfl (hf116.adv (x123.trans (x126.trans ((Hp.eraseA (σ := [rowR 56 b120 [v115, v117, Value.int .i64 y109.none_], ownR [] (intE .i64) 3 v33 z28]) 0).trans hA149)))) hy167 Try.underlying26 Try.sizeOf3 rfl ?_
              intro b168 o169 cs170 hR171 hC172
              obtain ⟨rfl, r173⟩ := hR171
              refine Reg.take rfl rfl ?_
              refine s_ld rfl (hC172.cells.at 0 rfl) Try.isAgg3 rfl ?_
              refine Reg.take rfl rfl ?_
              refine s_geq rfl rfl rfl ?_
              refine s_pkT rfl rfl rfl ?_
              refine Reg.nilq (fun w174 e175 => ?_)
              have hI176 := hI148.ext e175
              obtain rfl := Option.some.inj h154
              refine ⟨rfl, decide (y167 ≤ y160), ⟨hI176, (Adv.of_ext e175), rfl⟩, Sub.cons rfl (Sub.cons rfl (Sub.cons rfl (Sub.cons rfl (Sub.cons rfl (Sub.cons rfl (Sub.cons rfl (Sub.cons rfl (Sub.cons rfl (Sub.cons rfl (Sub.cons rfl (Sub.cons rfl (Sub.cons rfl (Sub.cons rfl (Sub.cons rfl (Sub.cons rfl (Sub.cons rfl (Sub.cons rfl (Sub.cons rfl (Sub.cons rfl (Sub.nil _))))))))))))))))))))⟩
             ·replace h154 := cdF hg159 h154
              refine Reg.pass rfl rfl rfl rfl ?_
              refine Reg.pass rfl rfl rfl rfl ?_
              refine Reg.pass rfl rfl rfl rfl ?_
              refine Reg.pass rfl rfl rfl rfl ?_
              refine Reg.pass rfl rfl rfl rfl ?_
              refine Reg.pass rfl rfl rfl rfl ?_
              refine Reg.pass rfl rfl rfl rfl ?_
              refine Reg.pass rfl rfl rfl rfl ?_
              refine Reg.pass rfl rfl rfl rfl ?_
              refine Reg.pass rfl rfl rfl rfl ?_
              refine s_pkF rfl rfl rfl ?_
              refine Reg.nilq (fun w177 e178 => ?_)
              have hI179 := hI148.ext e178
              obtain rfl := Option.some.inj h154
              refine ⟨rfl, false, ⟨hI179, (Adv.of_ext e178), rfl⟩, Sub.cons rfl (Sub.cons rfl (Sub.cons rfl (Sub.cons rfl (Sub.cons rfl (Sub.cons rfl (Sub.cons rfl (Sub.cons rfl (Sub.cons rfl (Sub.cons rfl (Sub.cons rfl (Sub.cons rfl (Sub.cons rfl (Sub.cons rfl (Sub.cons rfl (Sub.cons rfl (Sub.cons rfl (Sub.cons rfl (Sub.cons rfl (Sub.cons rfl (Sub.nil _))))))))))))))))))))⟩
            ·skip
             rintro x155 w156 ⟨hI157, hA158, rfl⟩
             refine cw_cond rfl (fun hc180 => ?_) (fun hc180 => ?_)
             ·replace h151 := cdT hc180 h151
              refine cw_skip ?_
              refine cw_block ?_
              refine cw_regF ?_
              refine s_mv rfl rfl ?_
              obtain ⟨n181, hn181, h151⟩ := bnd h151
              replace hn181 := chk_out hn181
              refine p_add rfl rfl rfl hn181 ?_
              refine s_as rfl rfl ?_
              refine Reg.nil ?_
              obtain rfl := Option.some.inj h151
              refine ⟨rfl, n181, ⟨⟨hI157, (hA149.trans hA158), hn181.2⟩, rfl⟩, Sub.cons rfl (Sub.cons rfl (Sub.cons rfl (Sub.cons rfl (Sub.cons rfl (Sub.cons rfl (Sub.cons rfl (Sub.cons rfl (Sub.cons rfl (Sub.cons rfl (Sub.cons rfl (Sub.cons rfl (Sub.cons rfl (Sub.cons rfl (Sub.cons rfl (Sub.cons rfl (Sub.cons rfl (Sub.cons rfl (Sub.cons rfl (Sub.nil _)))))))))))))))))))⟩
             ·replace h151 := cdF hc180 h151
              refine cw_exit ?_
              refine exB_same ?_
              obtain rfl := Option.some.inj h151
              obtain rfl := hR152 _ rfl
              refine ⟨rfl, x145, ⟨hI157, (hA149.trans hA158), r146, rfl⟩, Sub.cons rfl (Sub.cons rfl (Sub.cons rfl (Sub.cons rfl (Sub.cons rfl (Sub.cons rfl (Sub.cons rfl (Sub.cons rfl (Sub.cons rfl (Sub.cons rfl (Sub.cons rfl (Sub.cons rfl (Sub.cons rfl (Sub.cons rfl (Sub.cons rfl (Sub.cons rfl (Sub.cons rfl (Sub.cons rfl (Sub.nil _))))))))))))))))))⟩
           ·skip
            rintro x140 w142 ⟨hI143, hA144, r141, rfl⟩
            refine cw_regF ?_
            refine s_mv rfl rfl ?_
            refine s_fa rfl Try.underlying56 rfl Try.sizeOf26 rfl ?_
            refine s_ld rfl ((hC128.adv hA144).cells.at 1 rfl) Try.isAgg26 rfl ?_
            refine s_mv rfl rfl ?_
            obtain ⟨y182, hy182, h103⟩ := bnd h103
            refine p_ia rfl rfl (hf118.adv (x123.trans (x126.trans ((Hp.eraseA (σ := [rowR 56 b120 [v115, v117, Value.int .i64 y109.none_], ownR [] (intE .i64) 3 v33 z28]) 0).trans hA144)))) hy182 Try.underlying26 Try.sizeOf3 rfl ?_
            intro b183 o184 cs185 hR186 hC187
            obtain ⟨rfl, r188⟩ := hR186
            refine s_ld rfl (hC187.cells.at 0 rfl) Try.isAgg3 rfl ?_
            obtain ⟨n189, hn189, h103⟩ := bnd h103
            replace hn189 := chk_out hn189
            refine p_add rfl rfl rfl hn189 ?_
            refine s_as rfl rfl ?_
            refine Reg.nil ?_
            obtain rfl := Option.some.inj h103
            refine ⟨rfl, n189, ⟨hI143, (x123.trans (x126.trans ((Hp.eraseA (σ := [rowR 56 b120 [v115, v117, Value.int .i64 y109.none_], ownR [] (intE .i64) 3 v33 z28]) 0).trans hA144))), hn189.2, rfl⟩, Sub.cons rfl (Sub.cons rfl (Sub.cons rfl (Sub.cons rfl (Sub.cons rfl (Sub.cons rfl (Sub.cons rfl (Sub.cons rfl (Sub.cons rfl (Sub.cons rfl (Sub.cons rfl (Sub.cons rfl (Sub.cons rfl (Sub.cons rfl (Sub.cons rfl (Sub.cons rfl (Sub.nil _))))))))))))))))⟩
         ·skip
          rintro x104 w106 ⟨hI107, hA108, r105, rfl⟩
          refine cw_regF ?_
          obtain ⟨n190, hn190, h99⟩ := bnd h99
          replace hn190 := chk_out hn190
          refine p_add rfl rfl rfl hn190 ?_
          refine s_mv rfl rfl ?_
          refine Reg.nil ?_
          obtain rfl := Option.some.inj h99
          refine ⟨rfl, (x104, n190), ⟨⟨hI107, (hA97.trans hA108), r105, hn190.2⟩, rfl⟩, Sub.cons rfl (Sub.cons rfl (Sub.cons rfl (Sub.cons rfl (Sub.cons rfl (Sub.cons rfl (Sub.cons rfl (Sub.cons rfl (Sub.cons rfl (Sub.cons rfl (Sub.cons rfl (Sub.cons rfl (Sub.cons rfl (Sub.cons rfl (Sub.cons rfl (Sub.cons rfl (Sub.nil _))))))))))))))))⟩
        ·replace h99 := cdF hc101 h99
         refine cw_exit ?_
         refine exB_same ?_
         obtain rfl := Option.some.inj h99
         obtain rfl := hR100 _ rfl
         refine ⟨rfl, x91, ⟨hI96, hA97, r92, rfl⟩, Sub.cons rfl (Sub.cons rfl (Sub.cons rfl (Sub.cons rfl (Sub.cons rfl (Sub.cons rfl (Sub.cons rfl (Sub.cons rfl (Sub.cons rfl (Sub.cons rfl (Sub.cons rfl (Sub.cons rfl (Sub.cons rfl (Sub.nil _)))))))))))))⟩
       ·skip
        rintro x86 w88 ⟨hI89, hA90, r87, rfl⟩
        refine cw_seq (cw_seq (cw_regF ?_))
        refine s_mv rfl rfl ?_
        refine s_mv rfl rfl ?_
        obtain ⟨y191, hy191, h62⟩ := bnd h62
        refine y_ia 0 hI89 rfl rfl rfl hy191 Try.underlying26 Try.sizeOf3 rfl ?_
        intro g192 cs193 hg194 hR195 hC196
        have khR195 := hR195
        obtain ⟨rfl, r197⟩ := hR195
        refine s_ld rfl (hC196.at 0 rfl) Try.isAgg3 rfl ?_
        refine s_mv rfl rfl ?_
        refine s_neq rfl rfl rfl ?_
        refine Reg.nil ?_
        refine cw_cond rfl (fun hc198 => ?_) (fun hc198 => ?_)
        ·replace h62 := cdT hc198 h62
         refine cw_seq (cw_regF ?_)
         refine s_as rfl rfl ?_
         refine Reg.nil ?_
         refine cw_ret ?_
         obtain rfl := Option.some.inj h62
         obtain rfl := hR63 _ rfl
         replace h := elimR h
         obtain rfl := Option.some.inj h
         refine fin1 Try.results5 rfl ?_
         exact ⟨rfl, hI89.kp⟩
        ·replace h62 := cdF hc198 h62
         refine cw_skip ?_
         refine cw_regF ?_
         refine s_mv rfl rfl ?_
         refine s_fa rfl Try.underlying54 rfl Try.sizeOf3 rfl ?_
         refine s_ld rfl ((hC83.adv hA90).cells.at 0 rfl) Try.isAgg3 rfl ?_
         refine s_mv rfl rfl ?_
         obtain ⟨n199, hn199, h62⟩ := bnd h62
         replace hn199 := chk_out hn199
         refine p_mul rfl rfl rfl hn199 ?_
         obtain ⟨n200, hn200, h62⟩ := bnd h62
         replace hn200 := chk_out hn200
         refine p_add rfl rfl rfl hn200 ?_
         refine s_as rfl rfl ?_
         refine Reg.nil ?_
         refine cw_regF ?_
         obtain ⟨n201, hn201, h62⟩ := bnd h62
         replace hn201 := chk_out hn201
         refine p_add rfl rfl rfl hn201 ?_
         refine s_mv rfl rfl ?_
         refine Reg.nil ?_
         obtain rfl := Option.some.inj h62
         refine ⟨rfl, (n200, n201), ⟨⟨hI89, (hA60.trans (x78.trans (x81.trans ((Hp.eraseA (σ := [rowR 54 b75 [Value.int .i64 y65.weight, Value.int .i64 y65.base, v73], ownR [] (intE .i64) 3 v33 z28]) 0).trans hA90)))), hn200.2, hn201.2⟩, rfl⟩, Sub.cons rfl (Sub.cons rfl (Sub.cons rfl (Sub.cons rfl (Sub.cons rfl (Sub.cons rfl (Sub.cons rfl (Sub.cons rfl (Sub.cons rfl (Sub.cons rfl (Sub.nil _))))))))))⟩
      ·replace h62 := cdF hc64 h62
       refine cw_exit ?_
       refine exB_same ?_
       obtain rfl := Option.some.inj h62
       obtain rfl := hR63 _ rfl
       refine ⟨rfl, x54, ⟨hI59, hA60, r55, rfl⟩, Sub.cons rfl (Sub.cons rfl (Sub.cons rfl (Sub.cons rfl (Sub.cons rfl (Sub.cons rfl (Sub.cons rfl (Sub.nil _)))))))⟩
     ·skip
      rintro x49 w51 ⟨hI52, hA53, r50, rfl⟩
      replace h := elimL h
      refine cw_seq (cw_seq (cw_regF ?_))
      refine s_fa rfl Try.underlying25 rfl Try.sizeOf23 rfl ?_
      refine s_ld rfl ((hC6.adv ((Adv.of_ext e10).trans ((Adv.of_ext e16).trans ((Adv.of_ext e24).trans ((hI27.addOwnA e32 hf34).trans hA53))))).cells.at 2 rfl) Try.isAgg23 rfl ?_
      refine s_len rfl (f_m_2.adv hI52.adv) Try.underlying23 rfl ?_
      refine s_mv rfl rfl ?_
      refine Reg.nil ?_
      obtain ⟨j202, h203, h⟩ := bnd h
      refine cw_sub (L := [(1, _), (9, _), (11, _), (130, _), (131, _), (132, _), (2, _), (5, _), (6, _), (7, _)]) (Sub.cons rfl (Sub.cons rfl (Sub.cons rfl (Sub.cons rfl (Sub.cons rfl (Sub.cons rfl (Sub.cons rfl (Sub.cons rfl (Sub.cons rfl (Sub.cons rfl (Sub.nil _))))))))))) ?_
      refine cw_unitD 6 (ι := Int) (fun x204 => [(11, Value.int .i64 x204)]) (fun x204 => fun w206 => Hp w [] M [ownR [] (intE .i64) 3 v33 z28] w206 ∧ Adv (mm [ownR [] (intE .i64) 3 v33 z28] M) (mm [ownR [] (intE .i64) 3 v33 z28] M) w51 w206 ∧ InK .i64 x204 ∧ (.inl x204) = j202) ?_ ?_
      ·skip
       refine cw_block ?_
       refine cw_sub (L := [(11, _), (132, _), (1, _), (2, _), (5, _), (6, _), (7, _), (9, _), (130, _), (131, _)]) (Sub.cons rfl (Sub.cons rfl (Sub.cons rfl (Sub.cons rfl (Sub.cons rfl (Sub.cons rfl (Sub.cons rfl (Sub.cons rfl (Sub.cons rfl (Sub.cons rfl (Sub.nil _))))))))))) ?_
       refine cw_loopM 2 (ι := Int × Int) _ (fun ⟨x209, x211⟩ => [(11, Value.int .i64 x209), (132, Value.int .i64 x211)]) (fun ⟨x209, x211⟩ => (x209, x211)) (fun ⟨x209, x211⟩ => fun w213 => Hp w [] M [ownR [] (intE .i64) 3 v33 z28] w213 ∧ Adv (mm [ownR [] (intE .i64) 3 v33 z28] M) (mm [ownR [] (intE .i64) 3 v33 z28] M) w51 w213 ∧ InK .i64 x209 ∧ InK .i64 x211) (x49, 0) h203 ⟨hI52, (Adv.refl _ _), r50, (by decide)⟩ (Sub.cons rfl (Sub.cons rfl (Sub.cons rfl (Sub.cons rfl (Sub.cons rfl (Sub.cons rfl (Sub.cons rfl (Sub.cons rfl (Sub.cons rfl (Sub.cons rfl (Sub.nil _))))))))))) ?_
       rintro ⟨x209, x211⟩ w213 ⟨hI214, hA215, r210, r212⟩ y216 h217 hR218
       refine cw_seq (cw_regF ?_)
       refine s_lss rfl rfl rfl ?_
       refine Reg.nil ?_
       refine cw_seq ?_
       refine cw_cond rfl (fun hc219 => ?_) (fun hc219 => ?_)
       ·replace h217 := cdT hc219 h217
        refine cw_skip ?_
        refine cw_seq ?_
        refine cw_block ?_
        refine cw_seq (cw_regF ?_)
        refine s_mv rfl rfl ?_
        obtain ⟨y220, hy220, h217⟩ := bnd h217
        refine p_ia rfl rfl (f_m_2.adv hI214.adv) hy220 Try.underlying23 Try.sizeOf59 rfl ?_
        intro b221 o222 cs223 hR224 hC225
        obtain ⟨v227, rfl, r226, hf228⟩ := TreeE_R.1 hR224
        refine s_lda rfl hC225.cells Try.isAgg59 rfl Try.sizeOf59 rfl ?_
        refine y_al hI214 Try.zeroValue59 rfl rfl ?_
        intro b229 w230 hI231 x232
        refine s_as rfl rfl ?_
        refine y_st 0 hI231 rfl rfl rfl rfl Try.sizeOf59 rfl rfl (one1 rfl (one1 (RdS.oneC hf228) one0)) ?_
        intro w233 hI234 x235
        have hC237 := hI234.freezeRow 0 rfl
        have hI236 := hI234.erase 0
        refine Reg.nil ?_
        refine cw_seq (cw_regF ?_)
        refine s_fa rfl Try.underlying59 rfl Try.sizeOf57 rfl ?_
        refine s_ld rfl (hC237.cells.at 1 rfl) Try.isAgg57 rfl ?_
        refine s_len rfl (hf228.adv (x232.trans (x235.trans (Hp.eraseA (σ := [rowR 59 b229 [Value.int .i64 y220.weight, v227], ownR [] (intE .i64) 3 v33 z28]) 0)))) Try.underlying57 rfl ?_
        obtain ⟨l238, hl238, h217⟩ := bnd h217
        refine y_mk (E := boolE) (z := (Value.bool false)) (z0 := false) sl60 (by kernel_rfl) rfl (fun _ _ => rfl) hI236 rfl rfl hl238 rfl ?_
        intro v239 w240 hI241 x242
        refine s_as rfl rfl ?_
        refine Reg.nil ?_
        refine cw_seq (cw_regF ?_)
        refine s_mv rfl rfl ?_
        obtain ⟨y243, hy243, h217⟩ := bnd h217
        refine y_ia 0 hI241 rfl rfl rfl hy243 Try.underlying60 Try.sizeOf4 rfl ?_
        intro g244 cs245 hg246 hR247 hC248
        have khR247 := hR247
        obtain rfl := hR247
        obtain ⟨l249, hl249, h217⟩ := bnd h217
        refine y_sto 0 (E := boolE) (o := 0) hI241 rfl rfl rfl rfl hg246 hl249 rfl hC248 rfl rfl Try.sizeOf4 rfl (one1 rfl one0) ?_
        intro w250 hI251 x252
        refine Reg.nil ?_
        refine cw_seq (cw_regF ?_)
        refine s_fa rfl Try.underlying59 rfl Try.sizeOf57 rfl ?_
        refine s_ld rfl ((hC237.adv (x242.trans x252)).cells.at 1 rfl) Try.isAgg57 rfl ?_
        refine s_len rfl (hf228.adv (x232.trans (x235.trans ((Hp.eraseA (σ := [rowR 59 b229 [Value.int .i64 y220.weight, v227], ownR [] (intE .i64) 3 v33 z28]) 0).trans (x242.trans x252))))) Try.underlying57 rfl ?_
        refine s_mv rfl rfl ?_
        refine Reg.nil ?_
        obtain ⟨j253, h254, h217⟩ := bnd h217
        refine cw_sub (L := [(11, _), (18, _), (19, _), (20, _), (144, _), (145, _), (146, _), (1, _), (2, _), (5, _), (6, _), (7, _), (9, _), (130, _), (131, _), (132, _)]) (Sub.cons rfl (Sub.cons rfl (Sub.cons rfl (Sub.cons rfl (Sub.cons rfl (Sub.cons rfl (Sub.cons rfl (Sub.cons rfl (Sub.cons rfl (Sub.cons rfl (Sub.cons rfl (Sub.cons rfl (Sub.cons rfl (Sub.cons rfl (Sub.cons rfl (Sub.cons rfl (Sub.nil _))))))))))))))))) ?_
        refine cw_unitD 7 (ι := Int × (List Bool)) (fun ⟨x255, x257⟩ => [(11, Value.int .i64 x255)]) (fun ⟨x255, x257⟩ => fun w258 => Hp w [] M [ownR [] boolE 4 v239 x257, ownR [] (intE .i64) 3 v33 z28] w258 ∧ Adv (mm [ownR [] boolE 4 v239 l249, ownR [] (intE .i64) 3 v33 z28] M) (mm [ownR [] boolE 4 v239 x257, ownR [] (intE .i64) 3 v33 z28] M) w250 w258 ∧ InK .i64 x255 ∧ (.inl (x255, x257)) = j253) ?_ ?_
        ·skip
         refine cw_block ?_
         refine cw_sub (L := [(11, _), (146, _), (1, _), (2, _), (5, _), (6, _), (7, _), (9, _), (18, _), (19, _), (20, _), (130, _), (131, _), (132, _), (144, _), (145, _)]) (Sub.cons rfl (Sub.cons rfl (Sub.cons rfl (Sub.cons rfl (Sub.cons rfl (Sub.cons rfl (Sub.cons rfl (Sub.cons rfl (Sub.cons rfl (Sub.cons rfl (Sub.cons rfl (Sub.cons rfl (Sub.cons rfl (Sub.cons rfl (Sub.cons rfl (Sub.cons rfl (Sub.nil _))))))))))))))))) ?_
         refine cw_loopM 2 (ι := Int × Int × (List Bool)) _ (fun ⟨x261, x263, x265⟩ => [(11, Value.int .i64 x261), (146, Value.int .i64 x263)]) (fun ⟨x261, x263, x265⟩ => (x261, x263, x265)) (fun ⟨x261, x263, x265⟩ => fun w266 => Hp w [] M [ownR [] boolE 4 v239 x265, ownR [] (intE .i64) 3 v33 z28] w266 ∧ Adv (mm [ownR [] boolE 4 v239 l249, ownR [] (intE .i64) 3 v33 z28] M) (mm [ownR [] boolE 4 v239 x265, ownR [] (intE .i64) 3 v33 z28] M) w250 w266 ∧ InK .i64 x261 ∧ InK .i64 x263) (x209, 0, l249) h254 ⟨hI251, (Adv.refl _ _), r210, (by decide)⟩ (Sub.cons rfl (Sub.cons rfl (Sub.cons rfl (Sub.cons rfl (Sub.cons rfl (Sub.cons rfl (Sub.cons rfl (Sub.cons rfl (Sub.cons rfl (Sub.cons rfl (Sub.cons rfl (Sub.cons rfl (Sub.cons rfl (Sub.cons rfl (Sub.cons rfl (Sub.cons rfl (Sub.nil _))))))))))))))))) ?_
         rintro ⟨x261, x263, x265⟩ w266 ⟨hI267, hA268, r262, r264⟩ y269 h270 hR271
         refine cw_seq (cw_regF ?_)
         refine s_lss rfl rfl rfl ?_
         refine Reg.nil ?_
         refine cw_seq ?_
         refine cw_cond rfl (fun hc272 => ?_) (fun hc272 => ?_)
         ·replace h270 := cdT hc272 h270
          refine cw_skip ?_
          obtain ⟨j273, h274, h270⟩ := bnd h270
          refine cw_sub (L := [(11, _), (1, _), (2, _), (5, _), (6, _), (7, _), (9, _), (18, _), (19, _), (20, _), (130, _), (131, _), (132, _), (144, _), (145, _), (146, _)]) (Sub.cons rfl (Sub.cons rfl (Sub.cons rfl (Sub.cons rfl (Sub.cons rfl (Sub.cons rfl (Sub.cons rfl (Sub.cons rfl (Sub.cons rfl (Sub.cons rfl (Sub.cons rfl (Sub.cons rfl (Sub.cons rfl (Sub.cons rfl (Sub.cons rfl (Sub.cons rfl (Sub.nil _))))))))))))))))) ?_
          refine cw_seqD 1 (ι := Int × (List Bool)) (fun ⟨x275, x277⟩ => [(11, Value.int .i64 x275)]) (fun ⟨x275, x277⟩ => fun w278 => Hp w [] M [ownR [] boolE 4 v239 x277, ownR [] (intE .i64) 3 v33 z28] w278 ∧ Adv (mm [ownR [] boolE 4 v239 x265, ownR [] (intE .i64) 3 v33 z28] M) (mm [ownR [] boolE 4 v239 x277, ownR [] (intE .i64) 3 v33 z28] M) w266 w278 ∧ InK .i64 x275 ∧ (.inl (x275, x277)) = j273) ?_ ?_
          ·skip
           refine cw_block ?_
           refine cw_seq (cw_regF ?_)
           refine s_mv rfl rfl ?_
           obtain ⟨y281, hy281, h274⟩ := bnd h274
           refine p_ia rfl rfl (hf228.adv (x232.trans (x235.trans ((Hp.eraseA (σ := [rowR 59 b229 [Value.int .i64 y220.weight, v227], ownR [] (intE .i64) 3 v33 z28]) 0).trans (x242.trans (x252.trans hA268)))))) hy281 Try.underlying57 Try.sizeOf62 rfl ?_
           intro b282 o283 cs284 hR285 hC286
           obtain ⟨rfl, r287, r288, r289, r290, r291⟩ := NodeE_R.1 hR285
           refine s_lda rfl hC286.cells Try.isAgg62 rfl Try.sizeOf62 rfl ?_
           refine y_al hI267 Try.zeroValue62 rfl rfl ?_
           intro b292 w293 hI294 x295
           refine s_as rfl rfl ?_
           refine y_st 0 hI294 rfl rfl rfl rfl Try.sizeOf62 rfl rfl (one1 rfl (one1 rfl (one1 rfl (one1 rfl (one1 rfl one0))))) ?_
           intro w296 hI297 x298
           have hC300 := hI297.freezeRow 0 rfl
           have hI299 := hI297.erase 0
           refine Reg.nil ?_
           obtain ⟨j301, h302, h274⟩ := bnd h274
           refine cw_sub (L := [(11, _), (21, _), (22, _), (1, _), (2, _), (5, _), (6, _), (7, _), (9, _), (18, _), (19, _), (20, _), (130, _), (131, _), (132, _), (144, _), (145, _), (146, _)]) (Sub.cons rfl (Sub.cons rfl (Sub.cons rfl (Sub.cons rfl (Sub.cons rfl (Sub.cons rfl (Sub.cons rfl (Sub.cons rfl (Sub.cons rfl (Sub.cons rfl (Sub.cons rfl (Sub.cons rfl (Sub.cons rfl (Sub.cons rfl (Sub.cons rfl (Sub.cons rfl (Sub.cons rfl (Sub.cons rfl (Sub.nil _))))))))))))))))))) ?_
           refine cw_unitD 3 (ι := Int × (List Bool)) (fun ⟨x303, x305⟩ => [(11, Value.int .i64 x303)]) (fun ⟨x303, x305⟩ => fun w306 => Hp w [] M [ownR [] boolE 4 v239 x305, ownR [] (intE .i64) 3 v33 z28] w306 ∧ Adv (mm [ownR [] boolE 4 v239 x265, ownR [] (intE .i64) 3 v33 z28] M) (mm [ownR [] boolE 4 v239 x305, ownR [] (intE .i64) 3 v33 z28] M) w296 w306 ∧ InK .i64 x303 ∧ (.inl (x303, x305)) = j301) ?_ ?_
           ·skip
            refine cw_block ?_
            refine cw_seq (cw_regF ?_)
            refine s_mv rfl rfl ?_
            refine s_mv rfl rfl ?_
            obtain ⟨y309, hy309, h302⟩ := bnd h302
            refine y_ia 0 hI299 rfl rfl rfl hy309 Try.underlying60 Try.sizeOf4 rfl ?_
            intro g310 cs311 hg312 hR313 hC314
            have khR313 := hR313
            obtain rfl := hR313
            refine s_ld rfl (hC314.at 0 rfl) Try.isAgg4 rfl ?_
            refine s_not rfl rfl ?_
            refine s_as rfl rfl ?_
            refine Reg.nil ?_
            obtain ⟨j315, h316, h302⟩ := bnd h302
            refine cw_sub (L := [(11, _), (22, _), (155, _), (1, _), (2, _), (5, _), (6, _), (7, _), (9, _), (18, _), (19, _), (20, _), (130, _), (131, _), (132, _), (144, _), (145, _), (146, _)]) (Sub.cons rfl (Sub.cons rfl (Sub.cons rfl (Sub.cons rfl (Sub.cons rfl (Sub.cons rfl (Sub.cons rfl (Sub.cons rfl (Sub.cons rfl (Sub.cons rfl (Sub.cons rfl (Sub.cons rfl (Sub.cons rfl (Sub.cons rfl (Sub.cons rfl (Sub.cons rfl (Sub.cons rfl (Sub.cons rfl (Sub.nil _))))))))))))))))))) ?_
            refine cw_unitD 3 (ι := Int × (List Bool)) (fun ⟨x317, x319⟩ => [(11, Value.int .i64 x317)]) (fun ⟨x317, x319⟩ => fun w320 => Hp w [] M [ownR [] boolE 4 v239 x319, ownR [] (intE .i64) 3 v33 z28] w320 ∧ Adv (mm [ownR [] boolE 4 v239 x265, ownR [] (intE .i64) 3 v33 z28] M) (mm [ownR [] boolE 4 v239 x319, ownR [] (intE .i64) 3 v33 z28] M) w296 w320 ∧ InK .i64 x317 ∧ (.inl (x317, x319)) = j315) ?_ ?_
            ·skip
             refine cw_cond rfl (fun hc323 => ?_) (fun hc323 => ?_)
             ·replace h316 := cdT hc323 h316
              refine cw_skip ?_
              obtain rfl := Option.some.inj h316
              refine ⟨rfl, (x261, x265), ⟨hI299, (Adv.refl _ _), r262, rfl⟩, Sub.cons rfl (Sub.cons rfl (Sub.cons rfl (Sub.cons rfl (Sub.cons rfl (Sub.cons rfl (Sub.cons rfl (Sub.cons rfl (Sub.cons rfl (Sub.cons rfl (Sub.cons rfl (Sub.cons rfl (Sub.cons rfl (Sub.cons rfl (Sub.cons rfl (Sub.cons rfl (Sub.nil _))))))))))))))))⟩
             ·replace h316 := cdF hc323 h316
              refine cw_seq (cw_regF ?_)
              refine s_fa rfl Try.underlying62 rfl Try.sizeOf3 rfl ?_
              refine s_ld rfl (hC300.cells.at 0 rfl) Try.isAgg3 rfl ?_
              refine s_eql rfl rfl rfl ?_
              refine s_as rfl rfl ?_
              refine Reg.nil ?_
              obtain ⟨j324, h325, h316⟩ := bnd h316
              refine cw_sub (L := [(11, _), (22, _), (161, _), (1, _), (2, _), (5, _), (6, _), (7, _), (9, _), (18, _), (19, _), (20, _), (130, _), (131, _), (132, _), (144, _), (145, _), (146, _)]) (Sub.cons rfl (Sub.cons rfl (Sub.cons rfl (Sub.cons rfl (Sub.cons rfl (Sub.cons rfl (Sub.cons rfl (Sub.cons rfl (Sub.cons rfl (Sub.cons rfl (Sub.cons rfl (Sub.cons rfl (Sub.cons rfl (Sub.cons rfl (Sub.cons rfl (Sub.cons rfl (Sub.cons rfl (Sub.cons rfl (Sub.nil _))))))))))))))))))) ?_
              refine cw_unitD 3 (ι := Int × (List Bool)) (fun ⟨x326, x328⟩ => [(11, Value.int .i64 x326)]) (fun ⟨x326, x328⟩ => fun w329 => Hp w [] M [ownR [] boolE 4 v239 x328, ownR [] (intE .i64) 3 v33 z28] w329 ∧ Adv (mm [ownR [] boolE 4 v239 x265, ownR [] (intE .i64) 3 v33 z28] M) (mm [ownR [] boolE 4 v239 x328, ownR [] (intE .i64) 3 v33 z28] M) w296 w329 ∧ InK .i64 x326 ∧ (.inl (x326, x328)) = j324) ?_ ?_
              ·skip
               refine cw_cond rfl (fun hc332 => ?_) (fun hc332 => ?_)
               ·replace h325 := cdT hc332 h325
                refine cw_seq ?_
                refine cw_seq ?_
                refine cw_regT fol (by kernel_rfl) ?_
                refine s_mv rfl rfl ?_
                refine s_fa rfl Try.underlying25 rfl Try.sizeOf22 rfl ?_
                refine s_ld rfl ((hC6.adv ((Adv.of_ext e10).trans ((Adv.of_ext e16).trans ((Adv.of_ext e24).trans ((hI27.addOwnA e32 hf34).trans (hA53.trans (hA215.trans (x232.trans (x235.trans ((Hp.eraseA (σ := [rowR 59 b229 [Value.int .i64 y220.weight, v227], ownR [] (intE .i64) 3 v33 z28]) 0).trans (x242.trans (x252.trans (hA268.trans (x295.trans (x298.trans (Hp.eraseA (σ := [rowR 62 b292 [Value.int .i64 y281.trait, Value.int .i64 y281.cut, Value.int .i64 y281.low, Value.int .i64 y281.high, Value.int .i64 y281.points], ownR [] boolE 4 v239 x265, ownR [] (intE .i64) 3 v33 z28]) 0)))))))))))))))).cells.at 1 rfl) Try.isAgg22 rfl ?_
                refine s_len rfl (f_m_1.adv hI299.adv) Try.underlying22 rfl ?_
                refine s_mv rfl rfl ?_
                obtain ⟨n333, hn333, h325⟩ := bnd h325
                replace hn333 := chk_out hn333
                refine p_add rfl rfl rfl hn333 ?_
                obtain ⟨y334, hy334, h325⟩ := bnd h325
                refine y_ia 1 hI299 rfl rfl rfl hy334 Try.underlying26 Try.sizeOf3 rfl ?_
                intro g335 cs336 hg337 hR338 hC339
                have khR338 := hR338
                obtain ⟨rfl, r340⟩ := hR338
                refine s_ld rfl (hC339.at 0 rfl) Try.isAgg3 rfl ?_
                refine s_fa rfl Try.underlying62 rfl Try.sizeOf3 rfl ?_
                refine s_ld rfl (hC300.cells.at 4 rfl) Try.isAgg3 rfl ?_
                refine s_neq rfl rfl rfl ?_
                refine Reg.nilq (fun w341 e342 => ?_)
                have hI343 := hI299.ext e342
                refine cw_cond rfl (fun hc344 => ?_) (fun hc344 => ?_)
                ·replace h325 := cdT hc344 h325
                 refine cw_seq (cw_regF ?_)
                 refine s_as rfl rfl ?_
                 refine Reg.nil ?_
                 refine cw_ret ?_
                 obtain rfl := Option.some.inj h325
                 replace h316 := elimR h316
                 obtain rfl := Option.some.inj h316
                 replace h302 := elimR h302
                 obtain rfl := Option.some.inj h302
                 replace h274 := elimR h274
                 obtain rfl := Option.some.inj h274
                 replace h270 := elimR h270
                 obtain rfl := Option.some.inj h270
                 obtain rfl := hR271 _ rfl
                 replace h217 := elimR h217
                 obtain rfl := Option.some.inj h217
                 obtain rfl := hR218 _ rfl
                 replace h := elimR h
                 obtain rfl := Option.some.inj h
                 refine fin1 Try.results5 rfl ?_
                 exact ⟨rfl, hI343.kp⟩
                ·replace h325 := cdF hc344 h325
                 refine cw_skip ?_
                 refine cw_regF ?_
                 refine s_mv rfl rfl ?_
                 refine s_fa rfl Try.underlying59 rfl Try.sizeOf3 rfl ?_
                 refine s_ld rfl ((hC237.adv (x242.trans (x252.trans (hA268.trans (x295.trans (x298.trans ((Hp.eraseA (σ := [rowR 62 b292 [Value.int .i64 y281.trait, Value.int .i64 y281.cut, Value.int .i64 y281.low, Value.int .i64 y281.high, Value.int .i64 y281.points], ownR [] boolE 4 v239 x265, ownR [] (intE .i64) 3 v33 z28]) 0).trans (Adv.of_ext e342)))))))).cells.at 0 rfl) Try.isAgg3 rfl ?_
                 refine s_fa rfl Try.underlying62 rfl Try.sizeOf3 rfl ?_
                 refine s_ld rfl ((hC300.adv (Adv.of_ext e342)).cells.at 4 rfl) Try.isAgg3 rfl ?_
                 obtain ⟨n345, hn345, h325⟩ := bnd h325
                 replace hn345 := chk_out hn345
                 refine p_mul rfl rfl rfl hn345 ?_
                 obtain ⟨n346, hn346, h325⟩ := bnd h325
                 replace hn346 := chk_out hn346
                 refine p_add rfl rfl rfl hn346 ?_
                 refine s_as rfl rfl ?_
                 refine Reg.nil ?_
                 obtain rfl := Option.some.inj h325
                 refine ⟨rfl, (n346, x265), ⟨hI343, (Adv.of_ext e342), hn346.2, rfl⟩, Sub.cons rfl (Sub.cons rfl (Sub.cons rfl (Sub.cons rfl (Sub.cons rfl (Sub.cons rfl (Sub.cons rfl (Sub.cons rfl (Sub.cons rfl (Sub.cons rfl (Sub.cons rfl (Sub.cons rfl (Sub.cons rfl (Sub.cons rfl (Sub.cons rfl (Sub.cons rfl (Sub.nil _))))))))))))))))⟩
               ·replace h325 := cdF hc332 h325
                refine cw_seq ?_
                refine cw_regT fol (by kernel_rfl) ?_
                refine s_mv rfl rfl ?_
                refine s_fa rfl Try.underlying62 rfl Try.sizeOf3 rfl ?_
                refine s_ld rfl (hC300.cells.at 0 rfl) Try.isAgg3 rfl ?_
                obtain ⟨y347, hy347, h325⟩ := bnd h325
                refine p_ia rfl rfl (f_x_0.adv hI299.adv) hy347 Try.underlying26 Try.sizeOf3 rfl ?_
                intro b348 o349 cs350 hR351 hC352
                obtain ⟨rfl, r353⟩ := hR351
                refine s_ld rfl (hC352.cells.at 0 rfl) Try.isAgg3 rfl ?_
                refine s_fa rfl Try.underlying62 rfl Try.sizeOf3 rfl ?_
                refine s_ld rfl (hC300.cells.at 1 rfl) Try.isAgg3 rfl ?_
                refine s_geq rfl rfl rfl ?_
                refine s_as rfl rfl ?_
                refine Reg.nilq (fun w354 e355 => ?_)
                have hI356 := hI299.ext e355
                obtain ⟨j357, h358, h325⟩ := bnd h325
                refine cw_sub (L := [(22, _), (183, _), (1, _), (2, _), (5, _), (6, _), (7, _), (9, _), (11, _), (18, _), (19, _), (20, _), (130, _), (131, _), (132, _), (144, _), (145, _), (146, _)]) (Sub.cons rfl (Sub.cons rfl (Sub.cons rfl (Sub.cons rfl (Sub.cons rfl (Sub.cons rfl (Sub.cons rfl (Sub.cons rfl (Sub.cons rfl (Sub.cons rfl (Sub.cons rfl (Sub.cons rfl (Sub.cons rfl (Sub.cons rfl (Sub.cons rfl (Sub.cons rfl (Sub.cons rfl (Sub.cons rfl (Sub.nil _))))))))))))))))))) ?_
                refine cw_unitD 2 (ι := (List Bool)) (fun x359 => []) (fun x359 => fun w360 => Hp w [] M [ownR [] boolE 4 v239 x359, ownR [] (intE .i64) 3 v33 z28] w360 ∧ Adv (mm [ownR [] boolE 4 v239 x265, ownR [] (intE .i64) 3 v33 z28] M) (mm [ownR [] boolE 4 v239 x359, ownR [] (intE .i64) 3 v33 z28] M) w354 w360 ∧ x359 = j357) ?_ ?_
                ·skip
                 refine cw_cond rfl (fun hc363 => ?_) (fun hc363 => ?_)
                 ·replace h358 := cdT hc363 h358
                  refine cw_regF ?_
                  refine s_mv rfl rfl ?_
                  refine s_fa rfl Try.underlying62 rfl Try.sizeOf3 rfl ?_
                  refine s_ld rfl ((hC300.adv (Adv.of_ext e355)).cells.at 3 rfl) Try.isAgg3 rfl ?_
                  obtain ⟨y364, hy364, h358⟩ := bnd h358
                  refine y_ia 0 hI356 rfl rfl rfl hy364 Try.underlying60 Try.sizeOf4 rfl ?_
                  intro g365 cs366 hg367 hR368 hC369
                  have khR368 := hR368
                  obtain rfl := hR368
                  obtain ⟨l370, hl370, h358⟩ := bnd h358
                  refine y_sto 0 (E := boolE) (o := 0) hI356 rfl rfl rfl rfl hg367 hl370 rfl hC369 rfl rfl Try.sizeOf4 rfl (one1 rfl one0) ?_
                  intro w371 hI372 x373
                  refine Reg.nil ?_
                  obtain rfl := Option.some.inj h358
                  refine ⟨rfl, l370, ⟨hI372, x373, rfl⟩, Sub.cons rfl (Sub.cons rfl (Sub.cons rfl (Sub.cons rfl (Sub.cons rfl (Sub.cons rfl (Sub.cons rfl (Sub.cons rfl (Sub.cons rfl (Sub.cons rfl (Sub.cons rfl (Sub.cons rfl (Sub.cons rfl (Sub.cons rfl (Sub.cons rfl (Sub.cons rfl (Sub.nil _))))))))))))))))⟩
                 ·replace h358 := cdF hc363 h358
                  refine cw_regF ?_
                  refine s_mv rfl rfl ?_
                  refine s_fa rfl Try.underlying62 rfl Try.sizeOf3 rfl ?_
                  refine s_ld rfl ((hC300.adv (Adv.of_ext e355)).cells.at 2 rfl) Try.isAgg3 rfl ?_
                  obtain ⟨y374, hy374, h358⟩ := bnd h358
                  refine y_ia 0 hI356 rfl rfl rfl hy374 Try.underlying60 Try.sizeOf4 rfl ?_
                  intro g375 cs376 hg377 hR378 hC379
                  have khR378 := hR378
                  obtain rfl := hR378
                  obtain ⟨l380, hl380, h358⟩ := bnd h358
                  refine y_sto 0 (E := boolE) (o := 0) hI356 rfl rfl rfl rfl hg377 hl380 rfl hC379 rfl rfl Try.sizeOf4 rfl (one1 rfl one0) ?_
                  intro w381 hI382 x383
                  refine Reg.nil ?_
                  obtain rfl := Option.some.inj h358
                  refine ⟨rfl, l380, ⟨hI382, x383, rfl⟩, Sub.cons rfl (Sub.cons rfl (Sub.cons rfl (Sub.cons rfl (Sub.cons rfl (Sub.cons rfl (Sub.cons rfl (Sub.cons rfl (Sub.cons rfl (Sub.cons rfl (Sub.cons rfl (Sub.cons rfl (Sub.cons rfl (Sub.cons rfl (Sub.cons rfl (Sub.cons rfl (Sub.nil _))))))))))))))))⟩
                ·skip
                 rintro x359 w360 ⟨hI361, hA362, rfl⟩
                 obtain rfl := Option.some.inj h325
                 refine ⟨rfl, (x261, x359), ⟨hI361, ((Adv.of_ext e355).trans hA362), r262, rfl⟩, Sub.cons rfl (Sub.cons rfl (Sub.cons rfl (Sub.cons rfl (Sub.cons rfl (Sub.cons rfl (Sub.cons rfl (Sub.cons rfl (Sub.cons rfl (Sub.cons rfl (Sub.cons rfl (Sub.cons rfl (Sub.cons rfl (Sub.cons rfl (Sub.cons rfl (Sub.cons rfl (Sub.nil _))))))))))))))))⟩
              ·skip
               rintro ⟨x326, x328⟩ w329 ⟨hI330, hA331, r327, rfl⟩
               replace h316 := elimL h316
               obtain rfl := Option.some.inj h316
               refine ⟨rfl, (x326, x328), ⟨hI330, hA331, r327, rfl⟩, Sub.cons rfl (Sub.cons rfl (Sub.cons rfl (Sub.cons rfl (Sub.cons rfl (Sub.cons rfl (Sub.cons rfl (Sub.cons rfl (Sub.cons rfl (Sub.cons rfl (Sub.cons rfl (Sub.cons rfl (Sub.cons rfl (Sub.cons rfl (Sub.cons rfl (Sub.cons rfl (Sub.nil _))))))))))))))))⟩
            ·skip
             rintro ⟨x317, x319⟩ w320 ⟨hI321, hA322, r318, rfl⟩
             replace h302 := elimL h302
             obtain rfl := Option.some.inj h302
             refine ⟨rfl, (x317, x319), ⟨hI321, hA322, r318, rfl⟩, Sub.cons rfl (Sub.cons rfl (Sub.cons rfl (Sub.cons rfl (Sub.cons rfl (Sub.cons rfl (Sub.cons rfl (Sub.cons rfl (Sub.cons rfl (Sub.cons rfl (Sub.cons rfl (Sub.cons rfl (Sub.cons rfl (Sub.cons rfl (Sub.cons rfl (Sub.cons rfl (Sub.nil _))))))))))))))))⟩
           ·skip
            rintro ⟨x303, x305⟩ w306 ⟨hI307, hA308, r304, rfl⟩
            replace h274 := elimL h274
            obtain rfl := Option.some.inj h274
            refine ⟨rfl, (x303, x305), ⟨hI307, (x295.trans (x298.trans ((Hp.eraseA (σ := [rowR 62 b292 [Value.int .i64 y281.trait, Value.int .i64 y281.cut, Value.int .i64 y281.low, Value.int .i64 y281.high, Value.int .i64 y281.points], ownR [] boolE 4 v239 x265, ownR [] (intE .i64) 3 v33 z28]) 0).trans hA308))), r304, rfl⟩, Sub.cons rfl (Sub.cons rfl (Sub.cons rfl (Sub.cons rfl (Sub.cons rfl (Sub.cons rfl (Sub.cons rfl (Sub.cons rfl (Sub.cons rfl (Sub.cons rfl (Sub.cons rfl (Sub.cons rfl (Sub.cons rfl (Sub.cons rfl (Sub.cons rfl (Sub.cons rfl (Sub.nil _))))))))))))))))⟩
          ·skip
           rintro ⟨x275, x277⟩ w278 ⟨hI279, hA280, r276, rfl⟩
           replace h270 := elimL h270
           refine cw_regF ?_
           obtain ⟨n384, hn384, h270⟩ := bnd h270
           replace hn384 := chk_out hn384
           refine p_add rfl rfl rfl hn384 ?_
           refine s_mv rfl rfl ?_
           refine Reg.nil ?_
           obtain rfl := Option.some.inj h270
           refine ⟨rfl, (x275, n384, x277), ⟨⟨hI279, (hA268.trans hA280), r276, hn384.2⟩, rfl⟩, Sub.cons rfl (Sub.cons rfl (Sub.cons rfl (Sub.cons rfl (Sub.cons rfl (Sub.cons rfl (Sub.cons rfl (Sub.cons rfl (Sub.cons rfl (Sub.cons rfl (Sub.cons rfl (Sub.cons rfl (Sub.cons rfl (Sub.cons rfl (Sub.cons rfl (Sub.cons rfl (Sub.nil _))))))))))))))))⟩
         ·replace h270 := cdF hc272 h270
          refine cw_exit ?_
          refine exB_same ?_
          obtain rfl := Option.some.inj h270
          obtain rfl := hR271 _ rfl
          refine ⟨rfl, (x261, x265), ⟨hI267, hA268, r262, rfl⟩, Sub.cons rfl (Sub.cons rfl (Sub.cons rfl (Sub.cons rfl (Sub.cons rfl (Sub.cons rfl (Sub.cons rfl (Sub.cons rfl (Sub.cons rfl (Sub.cons rfl (Sub.nil _))))))))))⟩
        ·skip
         rintro ⟨x255, x257⟩ w258 ⟨hI259, hA260, r256, rfl⟩
         replace h217 := elimL h217
         refine cw_regF ?_
         obtain ⟨n385, hn385, h217⟩ := bnd h217
         replace hn385 := chk_out hn385
         refine p_add rfl rfl rfl hn385 ?_
         refine s_mv rfl rfl ?_
         refine Reg.nil ?_
         obtain rfl := Option.some.inj h217
         refine ⟨rfl, (x255, n385), ⟨⟨(hI259.sel [1] rfl), ((hA215.trans (x232.trans (x235.trans ((Hp.eraseA (σ := [rowR 59 b229 [Value.int .i64 y220.weight, v227], ownR [] (intE .i64) 3 v33 z28]) 0).trans (x242.trans (x252.trans hA260)))))).trans (Hp.selA (σ := [ownR [] boolE 4 v239 x257, ownR [] (intE .i64) 3 v33 z28]) [1])), r256, hn385.2⟩, rfl⟩, Sub.cons rfl (Sub.cons rfl (Sub.cons rfl (Sub.cons rfl (Sub.cons rfl (Sub.cons rfl (Sub.cons rfl (Sub.cons rfl (Sub.cons rfl (Sub.cons rfl (Sub.nil _))))))))))⟩
       ·replace h217 := cdF hc219 h217
        refine cw_exit ?_
        refine exB_same ?_
        obtain rfl := Option.some.inj h217
        obtain rfl := hR218 _ rfl
        refine ⟨rfl, x209, ⟨hI214, hA215, r210, rfl⟩, Sub.cons rfl (Sub.cons rfl (Sub.cons rfl (Sub.cons rfl (Sub.cons rfl (Sub.nil _)))))⟩
      ·skip
       rintro x204 w206 ⟨hI207, hA208, r205, rfl⟩
       replace h := elimL h
       obtain ⟨j386, h387, h⟩ := bnd h
       refine cw_sub (L := [(2, _), (5, _), (6, _), (7, _), (11, _)]) (Sub.cons rfl (Sub.cons rfl (Sub.cons rfl (Sub.cons rfl (Sub.cons rfl (Sub.nil _)))))) ?_
       refine cw_seqD 5 (ι := Bool) (fun x388 => [(4, Value.bool x388)]) (fun x388 => fun w389 => w206 = w389 ∧ x388 = j386) ?_ ?_
       ·skip
        refine cw_regF ?_
        refine s_mv rfl rfl ?_
        refine s_mv rfl rfl ?_
        refine Reg.gsplit (t := 199) rfl (fun hg392 => ?_) (fun hg392 => ?_)
        ·replace h387 := cdT hg392 h387
         refine Reg.take rfl rfl ?_
         refine s_mv rfl rfl ?_
         refine Reg.take rfl rfl ?_
         refine s_mv rfl rfl ?_
         refine Reg.take rfl rfl ?_
         refine s_eql rfl rfl rfl ?_
         refine s_pkT rfl rfl rfl ?_
         refine s_mv rfl rfl ?_
         refine Reg.gsplit (t := 204) rfl (fun hg393 => ?_) (fun hg393 => ?_)
         ·replace h387 := cdT hg393 h387
          refine Reg.take rfl rfl ?_
          refine s_mv rfl rfl ?_
          refine Reg.take rfl rfl ?_
          refine s_mv rfl rfl ?_
          refine Reg.take rfl rfl ?_
          refine s_fa rfl Try.underlying25 rfl Try.sizeOf3 rfl ?_
          refine Reg.take rfl rfl ?_
          refine s_ld rfl ((hC6.adv ((Adv.of_ext e10).trans ((Adv.of_ext e16).trans ((Adv.of_ext e24).trans ((hI27.addOwnA e32 hf34).trans (hA53.trans hA208)))))).cells.at 3 rfl) Try.isAgg3 rfl ?_
          refine Reg.take rfl rfl ?_
          obtain ⟨n394, hn394, h387⟩ := bnd h387
          replace hn394 := chk_out hn394
          refine p_mul rfl rfl rfl hn394 ?_
          refine Reg.take rfl rfl ?_
          refine s_geq rfl rfl rfl ?_
          refine Reg.take rfl rfl ?_
          refine s_eqB rfl rfl rfl Try.underlying4 ?_
          refine s_pkT rfl rfl rfl ?_
          refine s_as rfl rfl ?_
          refine Reg.nil ?_
          obtain rfl := Option.some.inj h387
          refine ⟨rfl, (z20 == decide (n394 ≤ x204)), ⟨rfl, rfl⟩, Sub.cons rfl (Sub.nil _)⟩
         ·replace h387 := cdF hg393 h387
          refine Reg.pass rfl rfl rfl rfl ?_
          refine Reg.pass rfl rfl rfl rfl ?_
          refine Reg.pass rfl rfl rfl rfl ?_
          refine Reg.pass rfl rfl rfl rfl ?_
          refine Reg.pass rfl rfl rfl rfl ?_
          refine Reg.pass rfl rfl rfl rfl ?_
          refine Reg.pass rfl rfl rfl rfl ?_
          refine s_pkF rfl rfl rfl ?_
          refine s_as rfl rfl ?_
          refine Reg.nil ?_
          obtain rfl := Option.some.inj h387
          refine ⟨rfl, false, ⟨rfl, rfl⟩, Sub.cons rfl (Sub.nil _)⟩
        ·replace h387 := cdF hg392 h387
         refine Reg.pass rfl rfl rfl rfl ?_
         refine Reg.pass rfl rfl rfl rfl ?_
         refine Reg.pass rfl rfl rfl rfl ?_
         refine s_pkF rfl rfl rfl ?_
         refine s_mv rfl rfl ?_
         refine Reg.pass rfl rfl rfl rfl ?_
         refine Reg.pass rfl rfl rfl rfl ?_
         refine Reg.pass rfl rfl rfl rfl ?_
         refine Reg.pass rfl rfl rfl rfl ?_
         refine Reg.pass rfl rfl rfl rfl ?_
         refine Reg.pass rfl rfl rfl rfl ?_
         refine Reg.pass rfl rfl rfl rfl ?_
         refine s_pkF rfl rfl rfl ?_
         refine s_as rfl rfl ?_
         refine Reg.nil ?_
         obtain rfl := Option.some.inj h387
         refine ⟨rfl, false, ⟨rfl, rfl⟩, Sub.cons rfl (Sub.nil _)⟩
       ·skip
        rintro x388 _ ⟨rfl, rfl⟩
        refine cw_ret ?_
        obtain rfl := Option.some.inj h
        refine fin1 Try.results5 rfl ?_
        exact ⟨rfl, hI207.kp⟩
end Go.Proofs.Ytecmlmngcnionaa
namespace Go.Proofs.Ytecmlmngcnionaa
open Go Go.Sx
namespace S
theorem bin_is {l : List Int} (hr : rising l = true) {v : Int} {k : Nat} (hk : k ≤ l.length) (h1 : ∀ (j : Nat) c, j < k → l[j]? = some c → c ≤ v) (h2 : ∀ c, l[k]? = some c → v < c) : (l.filter fun c => decide (c ≤ v)).length = k := by
  have e : l = l.take k ++ l.drop k := (List.take_append_drop k l).symm
  rw [e, List.filter_append, List.length_append]
  have a : (l.take k).filter (fun c => decide (c ≤ v)) = l.take k := by
    rw [List.filter_eq_self]
    intro c hc
    obtain ⟨j, hj⟩ := List.getElem?_of_mem hc
    rw [List.getElem?_take] at hj
    split at hj
    · rename_i hjk; exact decide_eq_true (h1 j c hjk hj)
    · cases hj
  have b : (l.drop k).filter (fun c => decide (c ≤ v)) = [] := by
    rw [List.filter_eq_nil_iff]
    intro c hc
    obtain ⟨j, hj⟩ := List.getElem?_of_mem hc
    rw [List.getElem?_drop] at hj
    have hlt := get_lt hj
    have hk2 : l[k]? = some (l[k]'(by omega)) := List.getElem?_eq_getElem (by omega)
    have := h2 _ hk2
    have := rising_le hr (show k ≤ k + j by omega) hk2 hj
    simp; omega
  rw [a, b, List.length_take]; simp; omega
theorem sum_take_bd {B : Int} (l : List Int) (h : ∀ y ∈ l, -B ≤ y ∧ y ≤ B) (i : Nat) (hB : 0 ≤ B) : -(B * l.length) ≤ (l.take i).sum ∧ (l.take i).sum ≤ B * l.length := by
  obtain ⟨h1, h2⟩ := sum_bd (l.take i) fun y hy => h y (List.mem_of_mem_take hy)
  have h3 : (l.take i).length ≤ l.length := by rw [List.length_take]; omega
  have h4 : B * ((l.take i).length : Int) ≤ B * (l.length : Int) := Int.mul_le_mul_of_nonneg_left (by omega) hB
  omega
theorem p_ScoreTrue (m : Model) (x : List Int) : P.law06_ScoreTrue m x = some true := by
  apply Ret.yes
  unfold P.law06_ScoreTrue
  rw [show (Model.mk m.traits m.cards m.trees m.need) = m from rfl]
  refine Ret.bind (Ret.val p_alive (Ret.condF rfl (Ret.bind (r_ready (fun hs hm hx => ?_) (Ret.condT rfl (Ret.ok rfl))))))
  refine Ret.condF rfl ?_
  obtain ⟨hl, hv⟩ := valuesOk_iff.1 hx
  obtain ⟨hm1, hm2, hm3, hm4, hm5, hm6, hm7⟩ := modelOk_iff.1 hm
  have hneed := pt_iff.1 hm3
  refine Ret.bind (r_Score hs hm hx ?_)
  dsimp only
  have hpts : P.score_Points m x = some (all m x, 0) := by
    rw [p_SPoints m x hs (by omega)]
    unfold err
    simp only [hm, hx, Bool.and_self, if_true]
  refine Ret.bind (Ret.val hpts ?_)
  dsimp only
  have hal := all_len (m := m) (x := x)
  refine Ret.bind (Ret.condF (by simp) (Ret.condF (by simp) (Ret.bind (Ret.chk (by omega) (Ret.ok (Ret.condF ?_ ?_))))))
  · rw [hal, decide_eq_true (by omega)]; rfl
  have hcb : ∀ i c, m.cards[i]? = some c → -6000000 ≤ onCard c x ∧ onCard c x ≤ 6000000 := fun i c hc => onCard_bd (hm6 i c hc) hm2
  have hcw : ∀ y ∈ (m.cards.map fun c => c.weight * onCard c x), -6000000000 ≤ y ∧ y ≤ 6000000000 := fun y hy => by
    obtain ⟨c, hc, rfl⟩ := List.mem_map.1 hy
    obtain ⟨i, hi⟩ := List.getElem?_of_mem hc
    obtain ⟨w1, w2, _⟩ := cardOk_iff.1 (hm6 i c hi)
    exact mul_bd w1 w2 (hcb i c hi)
  have htw : ∀ y ∈ (m.trees.map fun c => c.weight * onTree c x), -6000000000 ≤ y ∧ y ≤ 6000000000 := fun y hy => by
    obtain ⟨c, hc, rfl⟩ := List.mem_map.1 hy
    obtain ⟨i, hi⟩ := List.getElem?_of_mem hc
    obtain ⟨w1, w2, _⟩ := treeOk_iff.1 (hm7 i c hi)
    have := onTree_bd (x := x) (hm7 i c hi)
    exact mul_bd w1 w2 ⟨by omega, by omega⟩
  have hcs : ∀ i, -12000000000 ≤ ((m.cards.map fun c => c.weight * onCard c x).take i).sum ∧ ((m.cards.map fun c => c.weight * onCard c x).take i).sum ≤ 12000000000 := fun i => by
    have := sum_take_bd _ hcw i (by decide)
    rw [List.length_map] at this
    omega
  have hts : ∀ i, -12000000000 ≤ ((m.trees.map fun c => c.weight * onTree c x).take i).sum ∧ ((m.trees.map fun c => c.weight * onTree c x).take i).sum ≤ 12000000000 := fun i => by
    have := sum_take_bd _ htw i (by decide)
    rw [List.length_map] at this
    omega
  refine Ret.bind (Ret.loop (fun t : Int × Int => ∃ n : Nat, t.2 = n ∧ n ≤ m.cards.length ∧ t.1 = ((m.cards.map fun c => c.weight * onCard c x).take n).sum) (fun t => m.cards.length - t.2.toNat) ⟨0, rfl, Nat.zero_le _, by simp⟩ ?_)
  · rintro ⟨_, _⟩ ⟨n, rfl, hn, rfl⟩
    dsimp only
    refine Ret.cond (fun h => ?_) fun h => ?_
    · have hlt : n < m.cards.length := by have := of_decide_eq_true h; omega
      have hcn : m.cards[n]? = some m.cards[n] := List.getElem?_eq_getElem hlt
      generalize m.cards[n] = c at hcn
      obtain ⟨cw1, cw2, cb, cl, csc⟩ := cardOk_iff.1 (hm6 n c hcn)
      have cb := pt_iff.1 cb
      have hpb : ∀ i, -5000000 ≤ ((parts c x).take i).sum ∧ ((parts c x).take i).sum ≤ 5000000 := fun i => by
        have := sum_take_bd _ (parts_bd (x := x) csc) i (by decide)
        rw [parts_len] at this
        omega
      refine Ret.bind (Ret.ixo hcn (Ret.bind (Ret.loop (fun t : Int × Int => ∃ k : Nat, t.2 = k ∧ k ≤ c.scales.length ∧ t.1 = c.base + ((parts c x).take k).sum) (fun t => c.scales.length - t.2.toNat) ⟨0, rfl, Nat.zero_le _, by simp⟩ ?_)))
      rintro ⟨_, _⟩ ⟨k, rfl, hk, rfl⟩
      dsimp only
      have hpk := hpb k
      refine Ret.cond (fun h2 => ?_) fun h2 => ?_
      · have hkl : k < c.scales.length := by have := of_decide_eq_true h2; omega
        have hsk : c.scales[k]? = some c.scales[k] := List.getElem?_eq_getElem hkl
        generalize c.scales[k] = s at hsk
        obtain ⟨s1, s2, s3, s4, s5, s6⟩ := scaleOk_iff.1 (csc k s hsk)
        have hxk : x[k]? = some (x[k]'(by omega)) := List.getElem?_eq_getElem (by omega)
        generalize x[k]'(by omega) = v at hxk
        have hrs : rising s.cuts = true := (rising_iff _).2 s5
        have hnext : c.base + ((parts c x).take k).sum + onScale s v = c.base + ((parts c x).take (k + 1)).sum := by
          rw [sum_succ (parts_get hsk hxk)]; omega
        have hb := onScale_bd v (csc k s hsk)
        have hpk1 := hpb (k + 1)
        refine Ret.bind (Ret.bind (Ret.ixo hsk (Ret.bind (Ret.ixo hxk (Ret.cond (fun h3 => ?_) fun h3 => ?_)))))
        · have h3 := of_decide_eq_true h3
          have e : onScale s v = s.none_ := by unfold onScale; rw [if_pos h3]
          rw [e] at hnext hb
          refine Ret.bind (Ret.chk (by omega) (Ret.ok (Ret.bind (Ret.chk (by omega) (Ret.next ⟨⟨k + 1, rfl, hkl, hnext⟩, ?_⟩)))))
          simp only; omega
        · have h3 := of_decide_eq_false h3
          refine Ret.bind (Ret.loop (fun t : Int => ∃ j : Nat, t = j ∧ j ≤ s.cuts.length ∧ ∀ (i : Nat) c, i < j → s.cuts[i]? = some c → c ≤ v) (fun t => s.cuts.length - t.toNat) ⟨0, rfl, Nat.zero_le _, fun i c h => by omega⟩ ?_)
          rintro _ ⟨j, rfl, hj, hjc⟩
          have out : (∀ c, s.cuts[j]? = some c → v < c) → Ret (Option.bind (ixo s.points (j : Int)) fun y122 => Option.bind (chk .i64 (c.base + ((parts c x).take k).sum + y122)) fun n129 => some n129) (fun a => a = c.base + ((parts c x).take (k + 1)).sum) := fun h4 => by
            have hbin := bin_is hrs hj hjc h4
            have hpt : s.points[j]? = some (s.points[j]'(by omega)) := List.getElem?_eq_getElem (by omega)
            have e : onScale s v = s.points[j]'(by omega) := by unfold onScale; rw [if_neg h3, hbin, hpt]; rfl
            rw [e] at hnext hb
            exact Ret.bind (Ret.ixo hpt (Ret.bind (Ret.chk (by omega) (Ret.ok hnext))))
          refine Ret.bind (Ret.cond (fun h4 => ?_) fun h4 => ?_)
          · have hjl : j < s.cuts.length := by have := of_decide_eq_true h4; omega
            have hcj : s.cuts[j]? = some s.cuts[j] := List.getElem?_eq_getElem hjl
            refine Ret.bind (Ret.ixo hxk (Ret.bind (Ret.ixo hcj (Ret.ok (Ret.cond (fun h5 => ?_) fun h5 => ?_)))))
            · have h5 := of_decide_eq_true h5
              refine Ret.bind (Ret.chk (by omega) (Ret.next ⟨⟨j + 1, rfl, hjl, fun i c hi hc => ?_⟩, by omega⟩))
              by_cases e : i = j
              · subst e; rw [hcj] at hc; cases hc; exact h5
              · exact hjc i c (by omega) hc
            · have h5 := of_decide_eq_false h5
              refine Ret.done ((out fun c hc => by rw [hcj] at hc; cases hc; omega).mono fun a ha => ?_)
              subst ha
              refine Ret.bind (Ret.chk (by omega) (Ret.next ⟨⟨k + 1, rfl, hkl, rfl⟩, ?_⟩))
              simp only; omega
          · have hjl : j = s.cuts.length := by have := of_decide_eq_false h4; omega
            refine Ret.ok (Ret.condF rfl (Ret.done ((out fun c hc => by have := get_lt hc; omega).mono fun a ha => ?_)))
            subst ha
            refine Ret.bind (Ret.chk (by omega) (Ret.next ⟨⟨k + 1, rfl, hkl, rfl⟩, ?_⟩))
            simp only; omega
      · have hk2 : k = c.scales.length := by have := of_decide_eq_false h2; omega
        have hown : c.base + ((parts c x).take k).sum = onCard c x := by
          unfold onCard
          rw [List.take_of_length_le (by rw [parts_len]; omega)]
        rw [hown]
        have hci := hcb n c hcn
        have hall : (all m x)[n]? = some (onCard c x) := by
          unfold all
          rw [List.getElem?_append_left (by rw [List.length_map]; exact hlt), List.getElem?_map, hcn]; rfl
        have hwb := mul_bd cw1 cw2 hci
        have hsn := hcs n
        have hsum : ((m.cards.map fun c => c.weight * onCard c x).take (n + 1)).sum = ((m.cards.map fun c => c.weight * onCard c x).take n).sum + c.weight * onCard c x := sum_succ (by rw [List.getElem?_map, hcn]; rfl)
        refine Ret.done (Ret.bind (Ret.ixo hall (Ret.condF (by simp) ?_)))
        refine Ret.bind (Ret.chk (by omega) (Ret.bind (Ret.chk (by omega) (Ret.bind (Ret.chk (by omega) (Ret.next ⟨⟨n + 1, rfl, hlt, hsum.symm⟩, ?_⟩))))))
        simp only; omega
    · have hn2 : n = m.cards.length := by have := of_decide_eq_false h; omega
      subst hn2
      rw [List.take_of_length_le (by rw [List.length_map]; omega)]
      refine Ret.done (Ret.elimL ?_)
      have hcsum := hcs m.cards.length
      rw [List.take_of_length_le (by rw [List.length_map]; omega)] at hcsum
      generalize hC : (m.cards.map fun c => c.weight * onCard c x).sum = C at hcsum
      refine Ret.bind (Ret.loop (fun t : Int × Int => ∃ n : Nat, t.2 = n ∧ n ≤ m.trees.length ∧ t.1 = C + ((m.trees.map fun c => c.weight * onTree c x).take n).sum) (fun t => m.trees.length - t.2.toNat) ⟨0, rfl, Nat.zero_le _, by simp⟩ ?_)
      rintro ⟨_, _⟩ ⟨n, rfl, hn, rfl⟩
      dsimp only
      refine Ret.cond (fun h => ?_) fun h => ?_
      · have hlt : n < m.trees.length := by have := of_decide_eq_true h; omega
        have htn : m.trees[n]? = some m.trees[n] := List.getElem?_eq_getElem hlt
        generalize m.trees[n] = t at htn
        obtain ⟨tw1, tw2, tl1, tl2, tno⟩ := treeOk_iff.1 (hm7 n t htn)
        have htb := onTree_bd (x := x) (hm7 n t htn)
        have hwb := mul_bd tw1 tw2 (y := onTree t x) ⟨by omega, by omega⟩
        have hsn := hts n
        have hsn1 := hts (n + 1)
        have hsum : ((m.trees.map fun c => c.weight * onTree c x).take (n + 1)).sum = ((m.trees.map fun c => c.weight * onTree c x).take n).sum + t.weight * onTree t x := sum_succ (by rw [List.getElem?_map, htn]; rfl)
        generalize ((m.trees.map fun c => c.weight * onTree c x).take n).sum = D at *
        have hall : (all m x)[m.cards.length + n]? = some (onTree t x) := by
          unfold all
          rw [List.getElem?_append_right (by rw [List.length_map]; omega), List.length_map, Nat.add_sub_cancel_left, List.getElem?_map, htn]; rfl
        refine Ret.bind (Ret.ixo htn (Ret.bind (Ret.mko (by omega) (by omega) ?_)))
        have hr0 : (List.replicate t.nodes.length false)[0]? = some false := by rw [List.getElem?_replicate, if_pos (by omega)]
        refine Ret.bind (Ret.ixo (i := 0) hr0 (Ret.bind (Ret.seto (i := 0) (by simp; omega) ?_)))
        refine Ret.bind (Ret.loop (fun u : Int × Int × List Bool => ∃ k : Nat, u.2.1 = k ∧ k ≤ t.nodes.length ∧ u.2.2.length = t.nodes.length ∧
            ((u.1 = C + D ∧ ∃ a : Nat, k ≤ a ∧ a < t.nodes.length ∧ (∀ j, k ≤ j → (u.2.2[j]? = some true ↔ j = a)) ∧ ∃ f, t.nodes.length - a ≤ f ∧ onTreeFrom t x f a = onTree t x) ∨ (u.1 = C + D + t.weight * onTree t x ∧ ∀ j, k ≤ j → u.2.2[j]? ≠ some true)))
          (fun u => t.nodes.length - u.2.1.toNat) ⟨0, rfl, Nat.zero_le _, by simp, .inl ⟨rfl, 0, Nat.le_refl _, by omega, fun j _ => ?_, t.nodes.length, by omega, rfl⟩⟩ ?_)
        · dsimp only
          rw [List.getElem?_set]
          by_cases e : 0 = j
          · subst e
            rw [if_pos rfl, if_pos (by rw [List.length_replicate]; omega)]
            exact ⟨fun _ => rfl, fun _ => rfl⟩
          · rw [if_neg e, List.getElem?_replicate]
            constructor
            · intro h; split at h <;> simp at h
            · intro h; omega
        · rintro ⟨sm, _, rs⟩ ⟨k, rfl, hk, hrl, hst⟩
          dsimp only at hrl hst ⊢
          refine Ret.cond (fun h2 => ?_) fun h2 => ?_
          · have hkl : k < t.nodes.length := by have := of_decide_eq_true h2; omega
            have hnk : t.nodes[k]? = some t.nodes[k] := List.getElem?_eq_getElem hkl
            generalize t.nodes[k] = nd at hnk
            have hrk : rs[k]? = some (rs[k]'(by omega)) := List.getElem?_eq_getElem (by omega)
            generalize rs[k]'(by omega) = b at hrk
            refine Ret.bind (Ret.bind (Ret.ixo hnk (Ret.bind (Ret.bind (Ret.ixo hrk (Ret.bind (Ret.cond (fun h3 => ?_) fun h3 => ?_)))))))
            · -- not reached
              have hb : b = false := by simpa using h3
              subst hb
              refine Ret.ok (Ret.elimL (Ret.ok (Ret.elimL (Ret.ok (Ret.elimL (Ret.bind (Ret.chk (by omega) (Ret.next ⟨⟨k + 1, rfl, hkl, hrl, ?_⟩, ?_⟩))))))))
              · rcases hst with ⟨e1, a, a1, a2, a3, a4⟩ | ⟨e1, a3⟩
                · refine .inl ⟨e1, a, ?_, a2, fun j hj => a3 j (by omega), a4⟩
                  by_cases e : k = a
                  · subst e
                    have := (a3 k (Nat.le_refl _)).2 rfl
                    rw [hrk] at this; cases this
                  · omega
                · exact .inr ⟨e1, fun j hj => a3 j (by omega)⟩
              · simp only; omega
            · have hb : b = true := by simpa using h3
              subst hb
              obtain ⟨e1, a, a1, a2, a3, f, f1, f2⟩ : sm = C + D ∧ ∃ a : Nat, k ≤ a ∧ a < t.nodes.length ∧ (∀ j, k ≤ j → (rs[j]? = some true ↔ j = a)) ∧ ∃ f, t.nodes.length - a ≤ f ∧ onTreeFrom t x f a = onTree t x := by
                rcases hst with h | ⟨_, a3⟩
                · exact h
                · exact absurd hrk (a3 k (Nat.le_refl _))
              have hka : k = a := (a3 k (Nat.le_refl _)).1 hrk
              subst hka e1
              obtain ⟨f, rfl⟩ : ∃ g, f = g + 1 := ⟨f - 1, by omega⟩
              refine Ret.bind (Ret.cond (fun h4 => ?_) fun h4 => ?_)
              · have h4 := of_decide_eq_true h4
                rw [onTree_leaf (by rw [Int.toNat_natCast]; exact hnk) h4] at f2
                have hpt : nd.points = onTree t x := f2
                refine Ret.bind (Ret.chk (by omega) (Ret.bind (Ret.ixoI (by omega) (by rw [hal]; omega) fun y hy => ?_)))
                rw [show ((m.cards.length : Int) + (n : Int)).toNat = m.cards.length + n by omega, hall] at hy
                cases hy
                rw [hpt]
                refine Ret.condF (by simp) (Ret.bind (Ret.chk (by omega) (Ret.bind (Ret.chk (by omega) (Ret.ok (Ret.elimL (Ret.ok (Ret.elimL (Ret.ok (Ret.elimL (Ret.ok (Ret.elimL (Ret.bind (Ret.chk (by omega) (Ret.next ⟨⟨k + 1, rfl, hkl, hrl, .inr ⟨rfl, fun j hj he => ?_⟩⟩, ?_⟩)))))))))))))))
                · have := (a3 j (by omega)).1 he
                  omega
                · simp only; omega
              · have h4 := of_decide_eq_false h4
                obtain ⟨q1, q2, q3, q4, q5, q6⟩ := node_asks (tno _ _ hnk) h4
                have hxv : x[nd.trait.toNat]? = some (x[nd.trait.toNat]'(by omega)) := List.getElem?_eq_getElem (by omega)
                rw [onTree_step (by rw [Int.toNat_natCast]; exact hnk) h4 hxv] at f2
                have child : ∀ c : Int, (k : Int) < c → c < t.nodes.length → onTreeFrom t x f c = onTree t x → Ret (Option.bind (ixo rs c) fun _ => Option.bind (seto rs c true) fun l => some l)
                    (fun r => r.length = t.nodes.length ∧ ∃ a : Nat, k + 1 ≤ a ∧ a < t.nodes.length ∧ (∀ j, k + 1 ≤ j → (r[j]? = some true ↔ j = a)) ∧ ∃ f, t.nodes.length - a ≤ f ∧ onTreeFrom t x f a = onTree t x) := fun c c1 c2 c3 => by
                  refine Ret.bind (Ret.ixoI (by omega) (by omega) fun _ _ => Ret.bind (Ret.setoI (by omega) (by omega) (Ret.ok ⟨by simp [hrl], c.toNat, by omega, by omega, fun j hj => ?_, f, by omega, by rw [Int.toNat_of_nonneg (by omega)]; exact c3⟩)))
                  rw [List.getElem?_set]
                  by_cases e : c.toNat = j
                  · rw [if_pos e, if_pos (by omega)]
                    exact ⟨fun _ => e.symm, fun _ => rfl⟩
                  · rw [if_neg e]
                    constructor
                    · intro h
                      have := (a3 j (by omega)).1 h
                      omega
                    · intro h; omega
                refine Ret.bind (Ret.ixoI q1 (by omega) fun v hv => ?_)
                rw [hxv] at hv
                cases hv
                refine Ret.bind (Ret.cond (fun h5 => (child nd.high (by omega) (by omega) ?_).mono fun r hr => ?_) fun h5 => (child nd.low (by omega) (by omega) ?_).mono fun r hr => ?_)
                · have h5 := of_decide_eq_true h5
                  rw [if_neg (by omega)] at f2; exact f2
                · refine Ret.ok (Ret.elimL (Ret.ok (Ret.elimL (Ret.ok (Ret.elimL (Ret.ok (Ret.elimL (Ret.bind (Ret.chk (by omega) (Ret.next ⟨⟨k + 1, rfl, hkl, hr.1, .inl ⟨rfl, hr.2⟩⟩, ?_⟩))))))))))
                  simp only; omega
                · have h5 := of_decide_eq_false h5
                  rw [if_pos (by omega)] at f2; exact f2
                · refine Ret.ok (Ret.elimL (Ret.ok (Ret.elimL (Ret.ok (Ret.elimL (Ret.ok (Ret.elimL (Ret.bind (Ret.chk (by omega) (Ret.next ⟨⟨k + 1, rfl, hkl, hr.1, .inl ⟨rfl, hr.2⟩⟩, ?_⟩))))))))))
                  simp only; omega
          · have hk2 : k = t.nodes.length := by have := of_decide_eq_false h2; omega
            have hfin : sm = C + D + t.weight * onTree t x := by
              rcases hst with ⟨_, a, a1, a2, _⟩ | ⟨e1, _⟩
              · omega
              · exact e1
            subst hfin
            refine Ret.done (Ret.elimL (Ret.bind (Ret.chk (by omega) (Ret.next ⟨⟨n + 1, rfl, hlt, by simp only; omega⟩, ?_⟩))))
            simp only; omega
      · have hn2 : n = m.trees.length := by have := of_decide_eq_false h; omega
        subst hn2
        rw [List.take_of_length_le (by rw [List.length_map]; omega)]
        have hscore : C + (m.trees.map fun c => c.weight * onTree c x).sum = score m x := by unfold score; rw [hC]
        rw [hscore]
        refine Ret.done (Ret.elimL ?_)
        refine Ret.bind (Ret.condT rfl (Ret.condT (by simp) (Ret.bind (Ret.chk (by omega) (Ret.ok (Ret.ok ?_))))))
        rw [Int.mul_comm]; simp
end S
end Go.Proofs.Ytecmlmngcnionaa
