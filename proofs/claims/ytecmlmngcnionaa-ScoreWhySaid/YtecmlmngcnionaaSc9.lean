/-
  Part 9 of the texts that the statement's proof stands on: what memory holds, how code is walked, what the functions reckon. In the order in which they build.
-/

import Derived.Test.YtecmlmngcnionaaSc8
set_option linter.unusedVariables false
set_option maxRecDepth 20000
namespace Go.Proofs.Ytecmlmngcnionaa
open Go Go.Sx Go.RowKit
noncomputable def P.law06_model  : Option Model :=
 some (Model.mk 2 ([(Card.mk 1000 20 ([(Scale.mk ([10, 20] : List Int) ([0, 15, 30] : List Int) 5), (Scale.mk ([100] : List Int) ([25, (-10)] : List Int) 0)] : List Scale))] : List Card) ([(Tree.mk 500 ([(Node.mk 1 50 1 2 0), (Node.mk (-1) 0 0 0 8), (Node.mk (-1) 0 0 0 (-40))] : List Node))] : List Tree) 50)
theorem C_law06_model {M : List Nat} {w : World} (hM : MLt M w)  {r0 : Model} (h : P.law06_model  = some r0) :
  Calls Try.prog 30 (List.toArray []) w fun e w' => ∃ v0_1 : Value, ∃ v0_2 : Value, e = .returned (Value.agg (List.toArray [Value.int .i64 r0.traits, v0_1, v0_2, Value.int .i64 r0.need])) ∧ InK .i64 r0.traits ∧ RdS CardE M w' v0_1 r0.cards ∧ RdS TreeE M w' v0_2 r0.trees ∧ InK .i64 r0.need ∧ Ext w w' := by
 have hI := Hp.start (Mu := []) hM
 refine calls_cw Try.func30 rfl Try.ntmps30 rfl ?_
 refine cw_seq (cw_regF ?_)
 refine y_al hI Try.zeroValue25 rfl rfl ?_
 intro b1 w2 hI3 x4
 refine Reg.nil ?_
 refine cw_seq (cw_regF ?_)
 refine y_bs (E := (intE .i64)) (xs := [10, 20]) sl26 hI3 rfl rfl (Cls.cons rfl (Cls.cons rfl Cls.nil)) (Chs.cons ⟨rfl, (by decide)⟩ (Chs.cons ⟨rfl, (by decide)⟩ Chs.nil)) rfl rfl ?_
 intro v5 w6 hI7 x8
 refine y_bs (E := (intE .i64)) (xs := [0, 15, 30]) sl26 hI7 rfl rfl (Cls.cons rfl (Cls.cons rfl (Cls.cons rfl Cls.nil))) (Chs.cons ⟨rfl, (by decide)⟩ (Chs.cons ⟨rfl, (by decide)⟩ (Chs.cons ⟨rfl, (by decide)⟩ Chs.nil))) rfl rfl ?_
 intro v9 w10 hI11 x12
 refine s_bd [(0, 1), (1, 1), (2, 1)] Try.zeroValue56 rfl Try.underlying56 (fun _ => by simp [Try.sizeOf26, Try.sizeOf3]) rfl (Cls.cons (Own.cells1 (hI11.ownAt 1 rfl)) (Cls.cons (Own.cells1 (hI11.ownAt 0 rfl)) (Cls.cons rfl (Cls.nil)))) rfl rfl ?_
 refine y_bs (E := (intE .i64)) (xs := [100]) sl26 hI11 rfl rfl (Cls.cons rfl Cls.nil) (Chs.cons ⟨rfl, (by decide)⟩ Chs.nil) rfl rfl ?_
 intro v13 w14 hI15 x16
 refine y_bs (E := (intE .i64)) (xs := [25, (-10)]) sl26 hI15 rfl rfl (Cls.cons rfl (Cls.cons rfl Cls.nil)) (Chs.cons ⟨rfl, (by decide)⟩ (Chs.cons ⟨rfl, (by decide)⟩ Chs.nil)) rfl rfl ?_
 intro v17 w18 hI19 x20
 refine s_bd [(0, 1), (1, 1), (2, 1)] Try.zeroValue56 rfl Try.underlying56 (fun _ => by simp [Try.sizeOf26, Try.sizeOf3]) rfl (Cls.cons (Own.cells1 (hI19.ownAt 1 rfl)) (Cls.cons (Own.cells1 (hI19.ownAt 0 rfl)) (Cls.nil))) rfl rfl ?_
 have hf21 := hI19.freeze 3 rfl
 have hI22 := hI19.erase 3
 have hf23 := hI22.freeze 2 rfl
 have hI24 := hI22.erase 2
 have hf25 := hI24.freeze 1 rfl
 have hI26 := hI24.erase 1
 have hf27 := hI26.freeze 0 rfl
 have hI28 := hI26.erase 0
 refine y_bs (E := ScaleE) (xs := [(Scale.mk ([10, 20] : List Int) ([0, 15, 30] : List Int) 5), (Scale.mk ([100] : List Int) ([25, (-10)] : List Int) 0)]) sl52 hI28 rfl rfl (Cls.cons rfl (Cls.cons rfl Cls.nil)) (Chs.cons ((ScaleE_R (x := (Scale.mk ([10, 20] : List Int) ([0, 15, 30] : List Int) 5))).2 ⟨_, _, rfl, (hf21.adv ((Hp.eraseA (σ := [ownR [] (intE .i64) 3 v17 ([25, (-10)] : List Int), ownR [] (intE .i64) 3 v13 ([100] : List Int), ownR [] (intE .i64) 3 v9 ([0, 15, 30] : List Int), rowR 25 b1 [Value.int .i64 0, Value.slice none 0 0, Value.slice none 0 0, Value.int .i64 0]]) 2).trans ((Hp.eraseA (σ := [ownR [] (intE .i64) 3 v17 ([25, (-10)] : List Int), ownR [] (intE .i64) 3 v13 ([100] : List Int), rowR 25 b1 [Value.int .i64 0, Value.slice none 0 0, Value.slice none 0 0, Value.int .i64 0]]) 1).trans (Hp.eraseA (σ := [ownR [] (intE .i64) 3 v17 ([25, (-10)] : List Int), rowR 25 b1 [Value.int .i64 0, Value.slice none 0 0, Value.slice none 0 0, Value.int .i64 0]]) 0)))), (hf23.adv ((Hp.eraseA (σ := [ownR [] (intE .i64) 3 v17 ([25, (-10)] : List Int), ownR [] (intE .i64) 3 v13 ([100] : List Int), rowR 25 b1 [Value.int .i64 0, Value.slice none 0 0, Value.slice none 0 0, Value.int .i64 0]]) 1).trans (Hp.eraseA (σ := [ownR [] (intE .i64) 3 v17 ([25, (-10)] : List Int), rowR 25 b1 [Value.int .i64 0, Value.slice none 0 0, Value.slice none 0 0, Value.int .i64 0]]) 0))), (by decide)⟩) (Chs.cons ((ScaleE_R (x := (Scale.mk ([100] : List Int) ([25, (-10)] : List Int) 0))).2 ⟨_, _, rfl, (hf25.adv (Hp.eraseA (σ := [ownR [] (intE .i64) 3 v17 ([25, (-10)] : List Int), rowR 25 b1 [Value.int .i64 0, Value.slice none 0 0, Value.slice none 0 0, Value.int .i64 0]]) 0)), hf27, (by decide)⟩) Chs.nil)) rfl rfl ?_
 intro v29 w30 hI31 x32
 refine s_bd [(0, 1), (1, 1), (2, 1)] Try.zeroValue54 rfl Try.underlying54 (fun _ => by simp [Try.sizeOf3, Try.sizeOf52]) rfl (Cls.cons rfl (Cls.cons rfl (Cls.cons (Own.cells1 (hI31.ownAt 0 rfl)) (Cls.nil)))) rfl rfl ?_
 have hf33 := hI31.freeze 0 rfl
 have hI34 := hI31.erase 0
 refine y_bs (E := CardE) (xs := [(Card.mk 1000 20 ([(Scale.mk ([10, 20] : List Int) ([0, 15, 30] : List Int) 5), (Scale.mk ([100] : List Int) ([25, (-10)] : List Int) 0)] : List Scale))]) sl22 hI34 rfl rfl (Cls.cons rfl Cls.nil) (Chs.cons ((CardE_R (x := (Card.mk 1000 20 ([(Scale.mk ([10, 20] : List Int) ([0, 15, 30] : List Int) 5), (Scale.mk ([100] : List Int) ([25, (-10)] : List Int) 0)] : List Scale)))).2 ⟨_, rfl, (by decide), (by decide), hf33⟩) Chs.nil) rfl rfl ?_
 intro v35 w36 hI37 x38
 refine s_bd [(0, 1), (1, 1), (2, 1), (3, 1), (4, 1)] Try.zeroValue62 rfl Try.underlying62 (fun _ => by simp [Try.sizeOf3]) rfl (Cls.cons rfl (Cls.cons rfl (Cls.cons rfl (Cls.cons rfl (Cls.nil))))) rfl rfl ?_
 refine s_bd [(0, 1), (1, 1), (2, 1), (3, 1), (4, 1)] Try.zeroValue62 rfl Try.underlying62 (fun _ => by simp [Try.sizeOf3]) rfl (Cls.cons rfl (Cls.cons rfl (Cls.nil))) rfl rfl ?_
 refine s_bd [(0, 1), (1, 1), (2, 1), (3, 1), (4, 1)] Try.zeroValue62 rfl Try.underlying62 (fun _ => by simp [Try.sizeOf3]) rfl (Cls.cons rfl (Cls.cons rfl (Cls.nil))) rfl rfl ?_
 refine y_bs (E := NodeE) (xs := [(Node.mk 1 50 1 2 0), (Node.mk (-1) 0 0 0 8), (Node.mk (-1) 0 0 0 (-40))]) sl57 hI37 rfl rfl (Cls.cons rfl (Cls.cons rfl (Cls.cons rfl Cls.nil))) (Chs.cons ((NodeE_R (x := (Node.mk 1 50 1 2 0))).2 ⟨rfl, (by decide), (by decide), (by decide), (by decide), (by decide)⟩) (Chs.cons ((NodeE_R (x := (Node.mk (-1) 0 0 0 8))).2 ⟨rfl, (by decide), (by decide), (by decide), (by decide), (by decide)⟩) (Chs.cons ((NodeE_R (x := (Node.mk (-1) 0 0 0 (-40)))).2 ⟨rfl, (by decide), (by decide), (by decide), (by decide), (by decide)⟩) Chs.nil))) rfl rfl ?_
 intro v39 w40 hI41 x42
 refine s_bd [(0, 1), (1, 1)] Try.zeroValue59 rfl Try.underlying59 (fun _ => by simp [Try.sizeOf3, Try.sizeOf57]) rfl (Cls.cons rfl (Cls.cons (Own.cells1 (hI41.ownAt 0 rfl)) (Cls.nil))) rfl rfl ?_
 have hf43 := hI41.freeze 0 rfl
 have hI44 := hI41.erase 0
 refine y_bs (E := TreeE) (xs := [(Tree.mk 500 ([(Node.mk 1 50 1 2 0), (Node.mk (-1) 0 0 0 8), (Node.mk (-1) 0 0 0 (-40))] : List Node))]) sl23 hI44 rfl rfl (Cls.cons rfl Cls.nil) (Chs.cons ((TreeE_R (x := (Tree.mk 500 ([(Node.mk 1 50 1 2 0), (Node.mk (-1) 0 0 0 8), (Node.mk (-1) 0 0 0 (-40))] : List Node)))).2 ⟨_, rfl, (by decide), hf43⟩) Chs.nil) rfl rfl ?_
 intro v45 w46 hI47 x48
 refine s_bd [(0, 1), (1, 1), (2, 1), (3, 1)] Try.zeroValue25 rfl Try.underlying25 (fun _ => by simp [Try.sizeOf22, Try.sizeOf23, Try.sizeOf3]) rfl (Cls.cons rfl (Cls.cons rfl (Cls.cons (Own.cells1 (hI47.ownAt 1 rfl)) (Cls.cons (Own.cells1 (hI47.ownAt 0 rfl)) (Cls.nil))))) rfl rfl ?_
 refine y_st 2 hI47 rfl rfl rfl rfl Try.sizeOf25 rfl rfl (one1 rfl (one1 (Own.oneC (hI47.ownAt 1 rfl)) (one1 (Own.oneC (hI47.ownAt 0 rfl)) (one1 rfl one0)))) ?_
 intro w49 hI50 x51
 refine Reg.nil ?_
 refine cw_ret ?_
 obtain rfl := Option.some.inj h
 have hf52 := hI50.freeze 1 rfl
 have hI53 := hI50.erase 1
 have hf54 := hI53.freeze 0 rfl
 have hI55 := hI53.erase 0
 refine fin_any Try.results30 (AllRs.cons (RsOk.agg rfl (hI55.row 0 rfl).rd.cells Try.isAgg25 rfl Try.sizeOf25) (AllRs.nil)) rfl ?_
 exact ⟨_, _, rfl, (by decide), ((hf52.adv (Hp.eraseA (σ := [ownR [] TreeE 59 v45 ([(Tree.mk 500 ([(Node.mk 1 50 1 2 0), (Node.mk (-1) 0 0 0 8), (Node.mk (-1) 0 0 0 (-40))] : List Node))] : List Tree), rowR 25 b1 [Value.int .i64 2, v35, v45, Value.int .i64 50]]) 0)).adv (Hp.baseA (σ := [rowR 25 b1 [Value.int .i64 2, v35, v45, Value.int .i64 50]]))), (hf54.adv (Hp.baseA (σ := [rowR 25 b1 [Value.int .i64 2, v35, v45, Value.int .i64 50]]))), (by decide), hI55.kp⟩
noncomputable def P.law06_span (lo : Int) (hi : Int) : Option Span :=
 some (Span.mk lo hi)
theorem C_law06_span {M : List Nat} {w : World} (hM : MLt M w) {lo : Int} (f_lo_0 : InK .i64 lo) {hi : Int} (f_hi_0 : InK .i64 hi) {r0 : Span} (h : P.law06_span lo hi = some r0) :
  Calls Try.prog 29 (List.toArray [Value.int .i64 lo, Value.int .i64 hi]) w fun e w' => e = .returned (Value.agg (List.toArray [Value.int .i64 r0.lo, Value.int .i64 r0.hi])) ∧ InK .i64 r0.lo ∧ InK .i64 r0.hi ∧ Ext w w' := by
 have hI := Hp.start (Mu := []) hM
 refine calls_cw Try.func29 rfl Try.ntmps29 rfl ?_
 refine cw_seq (cw_regF ?_)
 refine y_al hI Try.zeroValue45 rfl rfl ?_
 intro b1 w2 hI3 x4
 refine Reg.nil ?_
 refine cw_seq (cw_regF ?_)
 refine s_mv rfl rfl ?_
 refine s_mv rfl rfl ?_
 refine s_bd [(0, 1), (1, 1)] Try.zeroValue45 rfl Try.underlying45 (fun _ => by simp [Try.sizeOf3]) rfl (Cls.cons rfl (Cls.cons rfl (Cls.nil))) rfl rfl ?_
 refine y_st 0 hI3 rfl rfl rfl rfl Try.sizeOf45 rfl rfl (one1 rfl (one1 rfl one0)) ?_
 intro w5 hI6 x7
 refine Reg.nil ?_
 refine cw_ret ?_
 obtain rfl := Option.some.inj h
 refine fin_any Try.results29 (AllRs.cons (RsOk.agg rfl (hI6.row 0 rfl).rd.cells Try.isAgg45 rfl Try.sizeOf45) (AllRs.nil)) rfl ?_
 exact ⟨rfl, f_lo_0, f_hi_0, hI6.kp⟩
noncomputable def P.law06_alive  : Option Bool :=
 Option.bind (P.law06_model ) fun z1 => Option.bind (P.score_Score z1 ([12, 30] : List Int)) fun (z16, z17, z18) => Option.bind (P.law06_model ) fun z25 => Option.bind (P.score_Points z25 ([(-1), 200] : List Int)) fun (z42, z43) => Option.bind (P.law06_model ) fun z51 => Option.bind (P.law06_span 0 15) fun z62 => Option.bind (P.law06_span 40 60) fun z69 => Option.bind (P.score_Between z51 ([z62, z69] : List Span)) fun (z80, z81) => Option.bind (P.law06_model ) fun z98 => Option.bind (P.score_Reasons z98 ([5, 200] : List Int)) fun (z115, z116, z117) => Option.bind (cond (decide (z18 = 0)) (cond (decide (z16 = 64000)) (cond z17 (cond (decide (z43 = 0)) (Option.bind (P.ref01_SameInts z42 ([15, (-40)] : List Int)) fun z140 => cond z140 (cond (decide (z81 = 0)) (Option.bind (P.law06_span 25000 64000) fun z148 => cond (decide ((Span.mk z80.lo z80.hi) = z148)) (cond (decide (z117 = 0)) (Option.bind (P.ref01_SameInts z115 ([0, 1] : List Int)) fun z165 => cond z165 (Option.bind (P.ref01_SameInts z116 ([10, 0] : List Int)) fun z181 => some z181) (some false)) (some false)) (some false)) (some false)) (some false)) (some false)) (some false)) (some false)) (some false)) fun x217 => some x217
theorem C_law06_alive {M : List Nat} {w : World} (hM : MLt M w)  {r0 : Bool} (h : P.law06_alive  = some r0) :
  Calls Try.prog 24 (List.toArray []) w fun e w' => e = .returned (Value.bool r0) ∧ Ext w w' := by
 have hI := Hp.start (Mu := []) hM
 refine calls_cw Try.func24 rfl Try.ntmps24 rfl ?_
 refine cw_seq (cw_regF ?_)
 refine s_as rfl rfl ?_
 refine Reg.nil ?_
 refine cw_seq (cw_regF ?_)
 obtain ⟨z1, hz2, h⟩ := bnd h
 refine s_call rfl Try.call30 rfl ?_
 refine (C_law06_model hI.mlt hz2).mono ?_
 rintro _ w3 ⟨v6, v8, rfl, r5, hf7, hf9, r10, e4⟩
 refine ⟨_, rfl, ?_⟩
 have hI11 := hI.ext e4
 refine y_bs (E := (intE .i64)) (xs := [12, 30]) sl26 hI11 rfl rfl (Cls.cons rfl (Cls.cons rfl Cls.nil)) (Chs.cons ⟨rfl, (by decide)⟩ (Chs.cons ⟨rfl, (by decide)⟩ Chs.nil)) rfl rfl ?_
 intro v12 w13 hI14 x15
 obtain ⟨⟨z16, z17, z18⟩, hz19, h⟩ := bnd h
 refine s_call rfl Try.call14 rfl ?_
 refine (C_score_Score (hI14.sel [] rfl).mlt r5 ((hf7.adv x15).adv (Hp.selA (σ := [ownR [] (intE .i64) 3 v12 ([12, 30] : List Int)]) [])) ((hf9.adv x15).adv (Hp.selA (σ := [ownR [] (intE .i64) 3 v12 ([12, 30] : List Int)]) [])) r10 (hI14.lendRd [] 0 rfl rfl) hz19).mono ?_
 rintro _ w20 ⟨rfl, r22, r23, e21⟩
 refine ⟨_, rfl, ?_⟩
 have hI24 := hI14.ext e21
 refine s_mv rfl rfl ?_
 refine s_xt rfl rfl rfl ?_
 refine s_xt rfl rfl rfl ?_
 refine s_xt rfl rfl rfl ?_
 refine s_as rfl rfl ?_
 refine s_as rfl rfl ?_
 refine s_as rfl rfl ?_
 refine Reg.nil ?_
 refine cw_seq (cw_regF ?_)
 obtain ⟨z25, hz26, h⟩ := bnd h
 refine s_call rfl Try.call30 rfl ?_
 refine (C_law06_model hI24.mlt hz26).mono ?_
 rintro _ w27 ⟨v30, v32, rfl, r29, hf31, hf33, r34, e28⟩
 refine ⟨_, rfl, ?_⟩
 have hI35 := hI24.ext e28
 refine y_bs (E := (intE .i64)) (xs := [(-1), 200]) sl26 hI35 rfl rfl (Cls.cons rfl (Cls.cons rfl Cls.nil)) (Chs.cons ⟨rfl, (by decide)⟩ (Chs.cons ⟨rfl, (by decide)⟩ Chs.nil)) rfl rfl ?_
 intro v36 w37 hI38 x39
 have hf40 := hI38.freeze 0 rfl
 have hI41 := hI38.erase 0
 obtain ⟨⟨z42, z43⟩, hz44, h⟩ := bnd h
 refine s_call rfl Try.call16 rfl ?_
 refine (C_score_Points hI41.mlt r29 (hf31.adv (x39.trans (Hp.eraseA (σ := [ownR [] (intE .i64) 3 v36 ([(-1), 200] : List Int), ownR [] (intE .i64) 3 v12 ([12, 30] : List Int)]) 0))) (hf33.adv (x39.trans (Hp.eraseA (σ := [ownR [] (intE .i64) 3 v36 ([(-1), 200] : List Int), ownR [] (intE .i64) 3 v12 ([12, 30] : List Int)]) 0))) r34 hf40 hz44).mono ?_
 rintro _ w45 ⟨v47, rfl, hf48, r49, e46⟩
 refine ⟨_, rfl, ?_⟩
 have hI50 := hI41.addOwn e46 hf48
 refine s_mv rfl rfl ?_
 refine s_xt rfl rfl rfl ?_
 refine s_xt rfl rfl rfl ?_
 refine s_as rfl rfl ?_
 refine s_as rfl rfl ?_
 refine Reg.nil ?_
 refine cw_seq (cw_regF ?_)
 obtain ⟨z51, hz52, h⟩ := bnd h
 refine s_call rfl Try.call30 rfl ?_
 refine (C_law06_model hI50.mlt hz52).mono ?_
 rintro _ w53 ⟨v56, v58, rfl, r55, hf57, hf59, r60, e54⟩
 refine ⟨_, rfl, ?_⟩
 have hI61 := hI50.ext e54
 obtain ⟨z62, hz63, h⟩ := bnd h
 refine s_call rfl Try.call29 rfl ?_
 refine (C_law06_span hI61.mlt (by decide) (by decide) hz63).mono ?_
 rintro _ w64 ⟨rfl, r66, r67, e65⟩
 refine ⟨_, rfl, ?_⟩
 have hI68 := hI61.ext e65
 obtain ⟨z69, hz70, h⟩ := bnd h
 refine s_call rfl Try.call29 rfl ?_
 refine (C_law06_span hI68.mlt (by decide) (by decide) hz70).mono ?_
 rintro _ w71 ⟨rfl, r73, r74, e72⟩
 refine ⟨_, rfl, ?_⟩
 have hI75 := hI68.ext e72
 refine y_bs (E := SpanE) (xs := [z62, z69]) sl43 hI75 rfl rfl (Cls.cons rfl (Cls.cons rfl Cls.nil)) (Chs.cons ((SpanE_R (x := z62)).2 ⟨rfl, r66, r67⟩) (Chs.cons ((SpanE_R (x := z69)).2 ⟨rfl, r73, r74⟩) Chs.nil)) rfl rfl ?_
 intro v76 w77 hI78 x79
 obtain ⟨⟨z80, z81⟩, hz82, h⟩ := bnd h
 refine s_call rfl Try.call22 rfl ?_
 refine (C_score_Between (hI78.sel [1, 2] rfl).mlt r55 ((hf57.adv ((Adv.of_ext e65).trans ((Adv.of_ext e72).trans x79))).adv (Hp.selA (σ := [ownR [] SpanE 45 v76 ([z62, z69] : List Span), ownR [] (intE .i64) 3 v47 z42, ownR [] (intE .i64) 3 v12 ([12, 30] : List Int)]) [1, 2])) ((hf59.adv ((Adv.of_ext e65).trans ((Adv.of_ext e72).trans x79))).adv (Hp.selA (σ := [ownR [] SpanE 45 v76 ([z62, z69] : List Span), ownR [] (intE .i64) 3 v47 z42, ownR [] (intE .i64) 3 v12 ([12, 30] : List Int)]) [1, 2])) r60 (hI78.lendRd [1, 2] 0 rfl rfl) hz82).mono ?_
 rintro _ w83 ⟨rfl, r85, r86, r87, e84⟩
 refine ⟨_, rfl, ?_⟩
 have hI88 := hI78.ext e84
 refine s_mv rfl rfl ?_
 refine s_xt rfl rfl rfl ?_
 refine s_xt rfl rfl rfl ?_
 refine y_al hI88 Try.zeroValue45 rfl rfl ?_
 intro b89 w90 hI91 x92
 refine y_st 0 hI91 rfl rfl rfl rfl Try.sizeOf45 rfl rfl (one1 rfl (one1 rfl one0)) ?_
 intro w93 hI94 x95
 have hC97 := hI94.freezeRow 0 rfl
 have hI96 := hI94.erase 0
 refine s_as rfl rfl ?_
 refine Reg.nil ?_
 refine cw_seq (cw_regF ?_)
 obtain ⟨z98, hz99, h⟩ := bnd h
 refine s_call rfl Try.call30 rfl ?_
 refine (C_law06_model hI96.mlt hz99).mono ?_
 rintro _ w100 ⟨v103, v105, rfl, r102, hf104, hf106, r107, e101⟩
 refine ⟨_, rfl, ?_⟩
 have hI108 := hI96.ext e101
 refine y_bs (E := (intE .i64)) (xs := [5, 200]) sl26 hI108 rfl rfl (Cls.cons rfl (Cls.cons rfl Cls.nil)) (Chs.cons ⟨rfl, (by decide)⟩ (Chs.cons ⟨rfl, (by decide)⟩ Chs.nil)) rfl rfl ?_
 intro v109 w110 hI111 x112
 have hf113 := hI111.freeze 0 rfl
 have hI114 := hI111.erase 0
 obtain ⟨⟨z115, z116, z117⟩, hz118, h⟩ := bnd h
 refine s_call rfl Try.call28 rfl ?_
 refine (C_score_Reasons hI114.mlt r102 (hf104.adv (x112.trans (Hp.eraseA (σ := [ownR [] (intE .i64) 3 v109 ([5, 200] : List Int), ownR [] SpanE 45 v76 ([z62, z69] : List Span), ownR [] (intE .i64) 3 v47 z42, ownR [] (intE .i64) 3 v12 ([12, 30] : List Int)]) 0))) (hf106.adv (x112.trans (Hp.eraseA (σ := [ownR [] (intE .i64) 3 v109 ([5, 200] : List Int), ownR [] SpanE 45 v76 ([z62, z69] : List Span), ownR [] (intE .i64) 3 v47 z42, ownR [] (intE .i64) 3 v12 ([12, 30] : List Int)]) 0))) r107 hf113 hz118).mono ?_
 rintro _ w119 ⟨v121, v123, rfl, hf122, hf124, r125, e120⟩
 refine ⟨_, rfl, ?_⟩
 have hI126 := hI114.ext e120
 refine s_mv rfl rfl ?_
 refine s_xt rfl rfl rfl ?_
 refine s_xt rfl rfl rfl ?_
 refine s_xt rfl rfl rfl ?_
 refine s_as rfl rfl ?_
 refine s_as rfl rfl ?_
 refine s_as rfl rfl ?_
 refine Reg.nil ?_
 obtain ⟨j127, h128, h⟩ := bnd h
 refine cw_sub (L := [(1, _), (2, _), (3, _), (4, _), (5, _), (6, _), (7, _), (8, _), (9, _), (10, _)]) (Sub.cons rfl (Sub.cons rfl (Sub.cons rfl (Sub.cons rfl (Sub.cons rfl (Sub.cons rfl (Sub.cons rfl (Sub.cons rfl (Sub.cons rfl (Sub.cons rfl (Sub.nil _))))))))))) ?_
 refine cw_seqD 10 (ι := Bool) (fun x129 => [(0, Value.bool x129)]) (fun x129 => fun w130 => Hp w [] M [ownR [] SpanE 45 v76 ([z62, z69] : List Span), ownR [] (intE .i64) 3 v47 z42, ownR [] (intE .i64) 3 v12 ([12, 30] : List Int)] w130 ∧ Adv (mm [ownR [] SpanE 45 v76 ([z62, z69] : List Span), ownR [] (intE .i64) 3 v47 z42, ownR [] (intE .i64) 3 v12 ([12, 30] : List Int)] M) (mm [ownR [] SpanE 45 v76 ([z62, z69] : List Span), ownR [] (intE .i64) 3 v47 z42, ownR [] (intE .i64) 3 v12 ([12, 30] : List Int)] M) w119 w130 ∧ x129 = j127) ?_ ?_
 ·skip
  refine cw_regD [0, 1, 2, 3, 4, 5, 6, 7, 8, 9, 10, 11, 12, 13, 14, 15, 16, 17, 18, 19, 20, 21, 22, 23, 24, 25, 26, 27, 28, 29, 30, 31, 32, 33, 34, 35, 36, 37, 38, 39, 40, 41] [] fol (by kernel_rfl) rfl rfl ?_
  refine s_mv rfl rfl ?_
  refine s_eql rfl rfl rfl ?_
  refine s_mv rfl rfl ?_
  refine Reg.gsplit (t := 41) rfl (fun hg133 => ?_) (fun hg133 => ?_)
  ·replace h128 := cdT hg133 h128
   refine Reg.take rfl rfl ?_
   refine s_mv rfl rfl ?_
   refine Reg.take rfl rfl ?_
   refine s_eql rfl rfl rfl ?_
   refine s_pkT rfl rfl rfl ?_
   refine s_mv rfl rfl ?_
   refine Reg.gsplit (t := 45) rfl (fun hg134 => ?_) (fun hg134 => ?_)
   ·replace h128 := cdT hg134 h128
    refine Reg.take rfl rfl ?_
    refine s_mv rfl rfl ?_
    refine s_pkT rfl rfl rfl ?_
    refine s_mv rfl rfl ?_
    refine Reg.gsplit (t := 48) rfl (fun hg135 => ?_) (fun hg135 => ?_)
    ·replace h128 := cdT hg135 h128
     refine Reg.take rfl rfl ?_
     refine s_mv rfl rfl ?_
     refine Reg.take rfl rfl ?_
     refine s_eql rfl rfl rfl ?_
     refine s_pkT rfl rfl rfl ?_
     refine s_mv rfl rfl ?_
     refine Reg.gsplit (t := 52) rfl (fun hg136 => ?_) (fun hg136 => ?_)
     ·replace h128 := cdT hg136 h128
      refine Reg.take rfl rfl ?_
      refine s_mv rfl rfl ?_
      refine Reg.take rfl rfl ?_
      refine Reg.rel (.p fun v w' => RdS (intE .i64) (mm [ownR [] SpanE 45 v76 ([z62, z69] : List Span), ownR [] (intE .i64) 3 v47 z42, ownR [] (intE .i64) 3 v12 ([12, 30] : List Int)] M) w' v ([15, (-40)] : List Int)) [] rfl rfl rfl RSub.nil rfl (nodupB_spec rfl) ?_ (fun v w1 w2 e h => h.adv (Adv.of_ext e)) ?_
      ·intro w137 e138; simp only [relOut]; refine s_bs (E := (intE .i64)) (M := mm [ownR [] SpanE 45 v76 ([z62, z69] : List Span), ownR [] (intE .i64) 3 v47 z42, ownR [] (intE .i64) 3 v12 ([12, 30] : List Int)] M) (Bb := 0) (xs := ([15, (-40)] : List Int)) sl26 rfl rfl (Cls.cons rfl (Cls.cons rfl Cls.nil)) (Chs.cons ⟨rfl, (by decide)⟩ (Chs.cons ⟨rfl, (by decide)⟩ Chs.nil)) (hI126.mlt.ext e138) (Nat.zero_le _) rfl rfl ?_; intro a139 w140 x141 _ h142 _; exact Reg.nil ⟨rfl, x141, _, rfl, h142, trivial⟩
      refine Reg.take rfl rfl ?_
      obtain ⟨z146, hz146, h128⟩ := bnd h128
      refine Reg.relC (.bool z146) [(54, _)] rfl rfl (RSub.cons rfl rfl RSub.nil) rfl (nodupB_spec rfl) ?_ ?_
      ·intro w147 e148; simp only [relOut]; intro u143 k144 s145; refine s_call rfl Try.call20 rfl ?_; refine (C_ref01_SameInts ((hI126.sel [0, 2] rfl).mlt.ext e148) ((hI126.lendRd [0, 2] 1 rfl rfl).adv (Adv.of_ext e148)) (k144.adv (Hp.selA (σ := [ownR [] SpanE 45 v76 ([z62, z69] : List Span), ownR [] (intE .i64) 3 v47 z42, ownR [] (intE .i64) 3 v12 ([12, 30] : List Int)]) [0, 2])) hz146).mono ?_; rintro _ w149 ⟨rfl, x150⟩; refine ⟨_, rfl, ?_⟩; exact Reg.nil ⟨rfl, x150, _, rfl, rfl, trivial⟩
      refine s_pkT rfl rfl rfl ?_
      refine s_mv rfl rfl ?_
      refine Reg.gsplit (t := 57) rfl (fun hg152 => ?_) (fun hg152 => ?_)
      ·replace h128 := cdT hg152 h128
       refine Reg.take rfl rfl ?_
       refine s_mv rfl rfl ?_
       refine Reg.take rfl rfl ?_
       refine s_eql rfl rfl rfl ?_
       refine s_pkT rfl rfl rfl ?_
       refine s_mv rfl rfl ?_
       refine Reg.gsplit (t := 61) rfl (fun hg153 => ?_) (fun hg153 => ?_)
       ·replace h128 := cdT hg153 h128
        refine Reg.take rfl rfl ?_
        refine s_lda rfl (hC97.adv ((Adv.of_ext e101).trans (x112.trans ((Hp.eraseA (σ := [ownR [] (intE .i64) 3 v109 ([5, 200] : List Int), ownR [] SpanE 45 v76 ([z62, z69] : List Span), ownR [] (intE .i64) 3 v47 z42, ownR [] (intE .i64) 3 v12 ([12, 30] : List Int)]) 0).trans (Adv.of_ext e120))))).cells Try.isAgg45 rfl Try.sizeOf45 rfl ?_
        refine Reg.take rfl rfl ?_
        obtain ⟨z154, hz155, h128⟩ := bnd h128
        refine s_callq rfl rfl Try.call29 rfl (fun w156 e157 => (C_law06_span (hI126.mlt.ext e157) (by decide) (by decide) hz155).mono (fun _ _ hq => ⟨hq.1, hq.2.2.2⟩)) ?_
        have r158 := Calls.fact (C_law06_span hI126.mlt (by decide) (by decide) hz155) (fun _ _ hq => hq.2.1)
        have r159 := Calls.fact (C_law06_span hI126.mlt (by decide) (by decide) hz155) (fun _ _ hq => hq.2.2.1)
        refine Reg.take rfl rfl ?_
        refine s_eqS (Span_eq (Span.mk z80.lo z80.hi) z154) Try.eqGuardType45 rfl rfl rfl ?_
        refine s_pkT rfl rfl rfl ?_
        refine s_mv rfl rfl ?_
        refine Reg.gsplit (t := 66) rfl (fun hg160 => ?_) (fun hg160 => ?_)
        ·replace h128 := cdT hg160 h128
         refine Reg.take rfl rfl ?_
         refine s_mv rfl rfl ?_
         refine Reg.take rfl rfl ?_
         refine s_eql rfl rfl rfl ?_
         refine s_pkT rfl rfl rfl ?_
         refine s_mv rfl rfl ?_
         refine Reg.gsplit (t := 70) rfl (fun hg161 => ?_) (fun hg161 => ?_)
         ·replace h128 := cdT hg161 h128
          refine Reg.take rfl rfl ?_
          refine s_mv rfl rfl ?_
          refine Reg.take rfl rfl ?_
          refine Reg.rel (.p fun v w' => RdS (intE .i64) (mm [ownR [] SpanE 45 v76 ([z62, z69] : List Span), ownR [] (intE .i64) 3 v47 z42, ownR [] (intE .i64) 3 v12 ([12, 30] : List Int)] M) w' v ([0, 1] : List Int)) [] rfl rfl rfl RSub.nil rfl (nodupB_spec rfl) ?_ (fun v w1 w2 e h => h.adv (Adv.of_ext e)) ?_
          ·intro w162 e163; simp only [relOut]; refine s_bs (E := (intE .i64)) (M := mm [ownR [] SpanE 45 v76 ([z62, z69] : List Span), ownR [] (intE .i64) 3 v47 z42, ownR [] (intE .i64) 3 v12 ([12, 30] : List Int)] M) (Bb := 0) (xs := ([0, 1] : List Int)) sl26 rfl rfl (Cls.cons rfl (Cls.cons rfl Cls.nil)) (Chs.cons ⟨rfl, (by decide)⟩ (Chs.cons ⟨rfl, (by decide)⟩ Chs.nil)) (hI126.mlt.ext e163) (Nat.zero_le _) rfl rfl ?_; intro a164 w165 x166 _ h167 _; exact Reg.nil ⟨rfl, x166, _, rfl, h167, trivial⟩
          refine Reg.take rfl rfl ?_
          obtain ⟨z171, hz171, h128⟩ := bnd h128
          refine Reg.relC (.bool z171) [(72, _)] rfl rfl (RSub.cons rfl rfl RSub.nil) rfl (nodupB_spec rfl) ?_ ?_
          ·intro w172 e173; simp only [relOut]; intro u168 k169 s170; refine s_call rfl Try.call20 rfl ?_; refine (C_ref01_SameInts (hI126.mlt.ext e173) (hf122.adv (Adv.of_ext e173)) k169 hz171).mono ?_; rintro _ w174 ⟨rfl, x175⟩; refine ⟨_, rfl, ?_⟩; exact Reg.nil ⟨rfl, x175, _, rfl, rfl, trivial⟩
          refine s_pkT rfl rfl rfl ?_
          refine s_mv rfl rfl ?_
          refine Reg.gsplit (t := 75) rfl (fun hg177 => ?_) (fun hg177 => ?_)
          ·replace h128 := cdT hg177 h128
           refine Reg.take rfl rfl ?_
           refine s_mv rfl rfl ?_
           refine Reg.take rfl rfl ?_
           refine Reg.rel (.p fun v w' => RdS (intE .i64) (mm [ownR [] SpanE 45 v76 ([z62, z69] : List Span), ownR [] (intE .i64) 3 v47 z42, ownR [] (intE .i64) 3 v12 ([12, 30] : List Int)] M) w' v ([10, 0] : List Int)) [] rfl rfl rfl RSub.nil rfl (nodupB_spec rfl) ?_ (fun v w1 w2 e h => h.adv (Adv.of_ext e)) ?_
           ·intro w178 e179; simp only [relOut]; refine s_bs (E := (intE .i64)) (M := mm [ownR [] SpanE 45 v76 ([z62, z69] : List Span), ownR [] (intE .i64) 3 v47 z42, ownR [] (intE .i64) 3 v12 ([12, 30] : List Int)] M) (Bb := 0) (xs := ([10, 0] : List Int)) sl26 rfl rfl (Cls.cons rfl (Cls.cons rfl Cls.nil)) (Chs.cons ⟨rfl, (by decide)⟩ (Chs.cons ⟨rfl, (by decide)⟩ Chs.nil)) (hI126.mlt.ext e179) (Nat.zero_le _) rfl rfl ?_; intro a180 w181 x182 _ h183 _; exact Reg.nil ⟨rfl, x182, _, rfl, h183, trivial⟩
           refine Reg.take rfl rfl ?_
           obtain ⟨z187, hz187, h128⟩ := bnd h128
           refine Reg.relC (.bool z187) [(77, _)] rfl rfl (RSub.cons rfl rfl RSub.nil) rfl (nodupB_spec rfl) ?_ ?_
           ·intro w188 e189; simp only [relOut]; intro u184 k185 s186; refine s_call rfl Try.call20 rfl ?_; refine (C_ref01_SameInts (hI126.mlt.ext e189) (hf124.adv (Adv.of_ext e189)) k185 hz187).mono ?_; rintro _ w190 ⟨rfl, x191⟩; refine ⟨_, rfl, ?_⟩; exact Reg.nil ⟨rfl, x191, _, rfl, rfl, trivial⟩
           refine s_pkT rfl rfl rfl ?_
           refine s_as rfl rfl ?_
           refine Reg.nilF [] RSub.nil (nodupB_spec rfl) ?_
           intro w193 e194
           refine Reg.nil ?_
           have hI195 := hI126.ext e194
           obtain rfl := Option.some.inj h128
           refine ⟨rfl, z187, ⟨hI195, (Adv.of_ext e194), rfl⟩, Sub.cons rfl (Sub.nil _)⟩
          ·replace h128 := cdF hg177 h128
           refine Reg.pass rfl rfl rfl rfl ?_
           refine Reg.pass rfl rfl rfl rfl ?_
           refine Reg.pass rfl rfl rfl rfl ?_
           refine s_pkF rfl rfl rfl ?_
           refine s_as rfl rfl ?_
           refine Reg.nilF [] RSub.nil (nodupB_spec rfl) ?_
           intro w196 e197
           refine Reg.nil ?_
           have hI198 := hI126.ext e197
           obtain rfl := Option.some.inj h128
           refine ⟨rfl, false, ⟨hI198, (Adv.of_ext e197), rfl⟩, Sub.cons rfl (Sub.nil _)⟩
         ·replace h128 := cdF hg161 h128
          refine Reg.pass rfl rfl rfl rfl ?_
          refine Reg.pass rfl rfl rfl rfl ?_
          refine Reg.pass rfl rfl rfl rfl ?_
          refine s_pkF rfl rfl rfl ?_
          refine s_mv rfl rfl ?_
          refine Reg.pass rfl rfl rfl rfl ?_
          refine Reg.pass rfl rfl rfl rfl ?_
          refine Reg.pass rfl rfl rfl rfl ?_
          refine s_pkF rfl rfl rfl ?_
          refine s_as rfl rfl ?_
          refine Reg.nilF [] RSub.nil (nodupB_spec rfl) ?_
          intro w199 e200
          refine Reg.nil ?_
          have hI201 := hI126.ext e200
          obtain rfl := Option.some.inj h128
          refine ⟨rfl, false, ⟨hI201, (Adv.of_ext e200), rfl⟩, Sub.cons rfl (Sub.nil _)⟩
        ·replace h128 := cdF hg160 h128
         refine Reg.pass rfl rfl rfl rfl ?_
         refine Reg.pass rfl rfl rfl rfl ?_
         refine s_pkF rfl rfl rfl ?_
         refine s_mv rfl rfl ?_
         refine Reg.pass rfl rfl rfl rfl ?_
         refine Reg.pass rfl rfl rfl rfl ?_
         refine Reg.pass rfl rfl rfl rfl ?_
         refine s_pkF rfl rfl rfl ?_
         refine s_mv rfl rfl ?_
         refine Reg.pass rfl rfl rfl rfl ?_
         refine Reg.pass rfl rfl rfl rfl ?_
         refine Reg.pass rfl rfl rfl rfl ?_
         refine s_pkF rfl rfl rfl ?_
         refine s_as rfl rfl ?_
         refine Reg.nilF [] RSub.nil (nodupB_spec rfl) ?_
         intro w202 e203
         refine Reg.nil ?_
         have hI204 := hI126.ext e203
         obtain rfl := Option.some.inj h128
         refine ⟨rfl, false, ⟨hI204, (Adv.of_ext e203), rfl⟩, Sub.cons rfl (Sub.nil _)⟩
       ·replace h128 := cdF hg153 h128
        refine Reg.pass rfl rfl rfl rfl ?_
        refine Reg.pass rfl rfl rfl rfl ?_
        refine Reg.pass rfl rfl rfl rfl ?_
        refine s_pkF rfl rfl rfl ?_
        refine s_mv rfl rfl ?_
        refine Reg.pass rfl rfl rfl rfl ?_
        refine Reg.pass rfl rfl rfl rfl ?_
        refine s_pkF rfl rfl rfl ?_
        refine s_mv rfl rfl ?_
        refine Reg.pass rfl rfl rfl rfl ?_
        refine Reg.pass rfl rfl rfl rfl ?_
        refine Reg.pass rfl rfl rfl rfl ?_
        refine s_pkF rfl rfl rfl ?_
        refine s_mv rfl rfl ?_
        refine Reg.pass rfl rfl rfl rfl ?_
        refine Reg.pass rfl rfl rfl rfl ?_
        refine Reg.pass rfl rfl rfl rfl ?_
        refine s_pkF rfl rfl rfl ?_
        refine s_as rfl rfl ?_
        refine Reg.nilF [] RSub.nil (nodupB_spec rfl) ?_
        intro w205 e206
        refine Reg.nil ?_
        have hI207 := hI126.ext e206
        obtain rfl := Option.some.inj h128
        refine ⟨rfl, false, ⟨hI207, (Adv.of_ext e206), rfl⟩, Sub.cons rfl (Sub.nil _)⟩
      ·replace h128 := cdF hg152 h128
       refine Reg.pass rfl rfl rfl rfl ?_
       refine Reg.pass rfl rfl rfl rfl ?_
       refine s_pkF rfl rfl rfl ?_
       refine s_mv rfl rfl ?_
       refine Reg.pass rfl rfl rfl rfl ?_
       refine Reg.pass rfl rfl rfl rfl ?_
       refine Reg.pass rfl rfl rfl rfl ?_
       refine s_pkF rfl rfl rfl ?_
       refine s_mv rfl rfl ?_
       refine Reg.pass rfl rfl rfl rfl ?_
       refine Reg.pass rfl rfl rfl rfl ?_
       refine s_pkF rfl rfl rfl ?_
       refine s_mv rfl rfl ?_
       refine Reg.pass rfl rfl rfl rfl ?_
       refine Reg.pass rfl rfl rfl rfl ?_
       refine Reg.pass rfl rfl rfl rfl ?_
       refine s_pkF rfl rfl rfl ?_
       refine s_mv rfl rfl ?_
       refine Reg.pass rfl rfl rfl rfl ?_
       refine Reg.pass rfl rfl rfl rfl ?_
       refine Reg.pass rfl rfl rfl rfl ?_
       refine s_pkF rfl rfl rfl ?_
       refine s_as rfl rfl ?_
       refine Reg.nilF [] RSub.nil (nodupB_spec rfl) ?_
       intro w208 e209
       refine Reg.nil ?_
       have hI210 := hI126.ext e209
       obtain rfl := Option.some.inj h128
       refine ⟨rfl, false, ⟨hI210, (Adv.of_ext e209), rfl⟩, Sub.cons rfl (Sub.nil _)⟩
     ·replace h128 := cdF hg136 h128
      refine Reg.pass rfl rfl rfl rfl ?_
      refine Reg.pass rfl rfl rfl rfl ?_
      refine Reg.pass rfl rfl rfl rfl ?_
      refine s_pkF rfl rfl rfl ?_
      refine s_mv rfl rfl ?_
      refine Reg.pass rfl rfl rfl rfl ?_
      refine Reg.pass rfl rfl rfl rfl ?_
      refine s_pkF rfl rfl rfl ?_
      refine s_mv rfl rfl ?_
      refine Reg.pass rfl rfl rfl rfl ?_
      refine Reg.pass rfl rfl rfl rfl ?_
      refine Reg.pass rfl rfl rfl rfl ?_
      refine s_pkF rfl rfl rfl ?_
      refine s_mv rfl rfl ?_
      refine Reg.pass rfl rfl rfl rfl ?_
      refine Reg.pass rfl rfl rfl rfl ?_
      refine s_pkF rfl rfl rfl ?_
      refine s_mv rfl rfl ?_
      refine Reg.pass rfl rfl rfl rfl ?_
      refine Reg.pass rfl rfl rfl rfl ?_
      refine Reg.pass rfl rfl rfl rfl ?_
      refine s_pkF rfl rfl rfl ?_
      refine s_mv rfl rfl ?_
      refine Reg.pass rfl rfl rfl rfl ?_
      refine Reg.pass rfl rfl rfl rfl ?_
      refine Reg.pass rfl rfl rfl rfl ?_
      refine s_pkF rfl rfl rfl ?_
      refine s_as rfl rfl ?_
      refine Reg.nilF [] RSub.nil (nodupB_spec rfl) ?_
      intro w211 e212
      refine Reg.nil ?_
      have hI213 := hI126.ext e212
      obtain rfl := Option.some.inj h128
      refine ⟨rfl, false, ⟨hI213, (Adv.of_ext e212), rfl⟩, Sub.cons rfl (Sub.nil _)⟩
    ·replace h128 := cdF hg135 h128
     refine Reg.pass rfl rfl rfl rfl ?_
     refine Reg.pass rfl rfl rfl rfl ?_
     refine s_pkF rfl rfl rfl ?_
     refine s_mv rfl rfl ?_
     refine Reg.pass rfl rfl rfl rfl ?_
     refine Reg.pass rfl rfl rfl rfl ?_
     refine Reg.pass rfl rfl rfl rfl ?_
     refine s_pkF rfl rfl rfl ?_
     refine s_mv rfl rfl ?_
     refine Reg.pass rfl rfl rfl rfl ?_
     refine Reg.pass rfl rfl rfl rfl ?_
     refine s_pkF rfl rfl rfl ?_
     refine s_mv rfl rfl ?_
     refine Reg.pass rfl rfl rfl rfl ?_
     refine Reg.pass rfl rfl rfl rfl ?_
     refine Reg.pass rfl rfl rfl rfl ?_
     refine s_pkF rfl rfl rfl ?_
     refine s_mv rfl rfl ?_
     refine Reg.pass rfl rfl rfl rfl ?_
     refine Reg.pass rfl rfl rfl rfl ?_
     refine s_pkF rfl rfl rfl ?_
     refine s_mv rfl rfl ?_
     refine Reg.pass rfl rfl rfl rfl ?_
     refine Reg.pass rfl rfl rfl rfl ?_
     refine Reg.pass rfl rfl rfl rfl ?_
     refine s_pkF rfl rfl rfl ?_
     refine s_mv rfl rfl ?_
     refine Reg.pass rfl rfl rfl rfl ?_
     refine Reg.pass rfl rfl rfl rfl ?_
     refine Reg.pass rfl rfl rfl rfl ?_
     refine s_pkF rfl rfl rfl ?_
     refine s_as rfl rfl ?_
     refine Reg.nilF [] RSub.nil (nodupB_spec rfl) ?_
     intro w214 e215
     refine Reg.nil ?_
     have hI216 := hI126.ext e215
     obtain rfl := Option.some.inj h128
     refine ⟨rfl, false, ⟨hI216, (Adv.of_ext e215), rfl⟩, Sub.cons rfl (Sub.nil _)⟩
   ·replace h128 := cdF hg134 h128
    refine Reg.pass rfl rfl rfl rfl ?_
    refine s_pkF rfl rfl rfl ?_
    refine s_mv rfl rfl ?_
    refine Reg.pass rfl rfl rfl rfl ?_
    refine Reg.pass rfl rfl rfl rfl ?_
    refine s_pkF rfl rfl rfl ?_
    refine s_mv rfl rfl ?_
    refine Reg.pass rfl rfl rfl rfl ?_
    refine Reg.pass rfl rfl rfl rfl ?_
    refine Reg.pass rfl rfl rfl rfl ?_
    refine s_pkF rfl rfl rfl ?_
    refine s_mv rfl rfl ?_
    refine Reg.pass rfl rfl rfl rfl ?_
    refine Reg.pass rfl rfl rfl rfl ?_
    refine s_pkF rfl rfl rfl ?_
    refine s_mv rfl rfl ?_
    refine Reg.pass rfl rfl rfl rfl ?_
    refine Reg.pass rfl rfl rfl rfl ?_
    refine Reg.pass rfl rfl rfl rfl ?_
    refine s_pkF rfl rfl rfl ?_
    refine s_mv rfl rfl ?_
    refine Reg.pass rfl rfl rfl rfl ?_
    refine Reg.pass rfl rfl rfl rfl ?_
    refine s_pkF rfl rfl rfl ?_
    refine s_mv rfl rfl ?_
    refine Reg.pass rfl rfl rfl rfl ?_
    refine Reg.pass rfl rfl rfl rfl ?_
    refine Reg.pass rfl rfl rfl rfl ?_
    refine s_pkF rfl rfl rfl ?_
    refine s_mv rfl rfl ?_
    refine Reg.pass rfl rfl rfl rfl ?_
    refine Reg.pass rfl rfl rfl rfl ?_
    refine Reg.pass rfl rfl rfl rfl ?_
    refine s_pkF rfl rfl rfl ?_
    refine s_as rfl rfl ?_
    refine Reg.nilF [] RSub.nil (nodupB_spec rfl) ?_
    intro w217 e218
    refine Reg.nil ?_
    have hI219 := hI126.ext e218
    obtain rfl := Option.some.inj h128
    refine ⟨rfl, false, ⟨hI219, (Adv.of_ext e218), rfl⟩, Sub.cons rfl (Sub.nil _)⟩
  ·replace h128 := cdF hg133 h128
   refine Reg.pass rfl rfl rfl rfl ?_
   refine Reg.pass rfl rfl rfl rfl ?_
   refine s_pkF rfl rfl rfl ?_
   refine s_mv rfl rfl ?_
   refine Reg.pass rfl rfl rfl rfl ?_
   refine s_pkF rfl rfl rfl ?_
   refine s_mv rfl rfl ?_
   refine Reg.pass rfl rfl rfl rfl ?_
   refine Reg.pass rfl rfl rfl rfl ?_
   refine s_pkF rfl rfl rfl ?_
   refine s_mv rfl rfl ?_
   refine Reg.pass rfl rfl rfl rfl ?_
   refine Reg.pass rfl rfl rfl rfl ?_
   refine Reg.pass rfl rfl rfl rfl ?_
   refine s_pkF rfl rfl rfl ?_
   refine s_mv rfl rfl ?_
   refine Reg.pass rfl rfl rfl rfl ?_
   refine Reg.pass rfl rfl rfl rfl ?_
   refine s_pkF rfl rfl rfl ?_
   refine s_mv rfl rfl ?_
   refine Reg.pass rfl rfl rfl rfl ?_
   refine Reg.pass rfl rfl rfl rfl ?_
   refine Reg.pass rfl rfl rfl rfl ?_
   refine s_pkF rfl rfl rfl ?_
   refine s_mv rfl rfl ?_
   refine Reg.pass rfl rfl rfl rfl ?_
   refine Reg.pass rfl rfl rfl rfl ?_
   refine s_pkF rfl rfl rfl ?_
   refine s_mv rfl rfl ?_
   refine Reg.pass rfl rfl rfl rfl ?_
   refine Reg.pass rfl rfl rfl rfl ?_
   refine Reg.pass rfl rfl rfl rfl ?_
   refine s_pkF rfl rfl rfl ?_
   refine s_mv rfl rfl ?_
   refine Reg.pass rfl rfl rfl rfl ?_
   refine Reg.pass rfl rfl rfl rfl ?_
   refine Reg.pass rfl rfl rfl rfl ?_
   refine s_pkF rfl rfl rfl ?_
   refine s_as rfl rfl ?_
   refine Reg.nilF [] RSub.nil (nodupB_spec rfl) ?_
   intro w220 e221
   refine Reg.nil ?_
   have hI222 := hI126.ext e221
   obtain rfl := Option.some.inj h128
   refine ⟨rfl, false, ⟨hI222, (Adv.of_ext e221), rfl⟩, Sub.cons rfl (Sub.nil _)⟩
 ·skip
  rintro x129 w130 ⟨hI131, hA132, rfl⟩
  refine cw_ret ?_
  obtain rfl := Option.some.inj h
  refine fin1 Try.results24 rfl ?_
  exact ⟨rfl, hI131.kp⟩
end Go.Proofs.Ytecmlmngcnionaa
namespace Go.Proofs.Ytecmlmngcnionaa
open Go Go.Sx
namespace S
def mdl : Model := Model.mk 2 [Card.mk 1000 20 [Scale.mk [10, 20] [0, 15, 30] 5, Scale.mk [100] [25, -10] 0]] [Tree.mk 500 [Node.mk 1 50 1 2 0, Node.mk (-1) 0 0 0 8, Node.mk (-1) 0 0 0 (-40)]] 50
theorem p_model : P.law06_model = some mdl := rfl
theorem mdl_small : Small mdl := small_of (by decide +kernel)
theorem p_span (a b : Int) : P.law06_span a b = some (Span.mk a b) := rfl
theorem alive1 : P.score_Score mdl [12, 30] = some (64000, true, 0) := by
  rw [p_SScore mdl _ mdl_small (by decide)]
  decide +kernel
theorem alive2 : P.score_Points mdl [-1, 200] = some ([15, -40], 0) := by
  rw [p_SPoints mdl _ mdl_small (by decide)]
  decide +kernel
theorem alive3 : P.score_Between mdl [Span.mk 0 15, Span.mk 40 60] = some (Span.mk 25000 64000, 0) := by
  unfold P.score_Between
  rw [if_pos ⟨mdl_small, by decide⟩]
  decide +kernel
theorem p_SReasons (m : Model) (x : List Int) (hs : Small m) (hx : x.length ≤ 5) : P.score_Reasons m x = some (reasonsS m x) := by
  unfold P.score_Reasons
  rw [if_pos ⟨hs, by omega, p_sets _ hx⟩]
theorem alive4 : P.score_Reasons mdl [5, 200] = some ([0, 1], [10, 0], 0) := by
  rw [p_SReasons mdl _ mdl_small (by decide)]
  unfold reasonsS
  rw [show ([5, 200] : List Int).length = 2 from rfl, sets2]
  decide +kernel
theorem p_alive : P.law06_alive = some true := by
  unfold P.law06_alive
  rw [p_model, bindS, alive1, bindS]
  dsimp only
  rw [bindS, alive2, bindS]
  dsimp only
  rw [bindS, p_span, bindS, p_span, bindS, alive3, bindS]
  dsimp only
  rw [bindS, alive4, bindS]
  dsimp only
  rw [p_same _ _ (by decide), p_same _ _ (by decide), p_same _ _ (by decide)]
  rfl
end S
end Go.Proofs.Ytecmlmngcnionaa
namespace Go.Proofs.Ytecmlmngcnionaa
open Go Go.Sx
namespace S
theorem foldl_flat {A B C : Type} (f : C → B → C) (g : A → List B) : ∀ (l : List A) (c : C), (l.flatMap g).foldl f c = l.foldl (fun c a => (g a).foldl f c) c
  | [], _ => rfl
  | a :: l, c => by rw [List.flatMap_cons, List.foldl_append, List.foldl_cons, foldl_flat f g l]
theorem runL_never {T : Type} (f : T → Int → Bool × T) (g : T → Int → T) (h : ∀ s v, f s v = (false, g s v)) : ∀ (l : List Int) (s : T), runL f s l = (false, l.foldl g s)
  | [], _ => rfl
  | v :: l, s => by
    unfold runL
    rw [h s v]
    simp only [cond_false, List.foldl_cons]
    exact runL_never f g h l _
theorem onS_never {T : Type} (g : T → List Int → T) (lists : Nat → Option (List Int)) : ∀ (k t : Nat) (x : List Int) (s : T) (ls : List (List Int)), ls.length = k → x.length = t + k → (∀ j l, ls[j]? = some l → lists (t + j) = some l) →
    onS (fun s x => (false, g s x)) lists k t x s = (false, (prodL ls).foldl (fun s v => g s (x.take t ++ v)) s)
  | 0, t, x, s, [], _, hx, _ => by
    have : x.take t = x := List.take_of_length_le (by omega)
    simp [onS, prodL, this]
  | 0, _, _, _, _ :: _, h, _, _ => by simp at h
  | k + 1, _, _, _, [], h, _, _ => by simp at h
  | k + 1, t, x, s, l :: ls, h, hx, hl => by
    have h0 : lists t = some l := hl 0 l rfl
    have ih : ∀ (s : T) (v : Int), onS (fun s x => (false, g s x)) lists k (t + 1) (x.set t v) s = (false, (prodL ls).foldl (fun s w => g s ((x.set t v).take (t + 1) ++ w)) s) := fun s v =>
      onS_never g lists k (t + 1) (x.set t v) s ls (by simpa using h) (by rw [List.length_set]; omega) fun j l' hj => by
        have := hl (j + 1) l' (by simpa using hj)
        rwa [show t + (j + 1) = t + 1 + j by omega] at this
    have htk : ∀ v, (x.set t v).take (t + 1) = x.take t ++ [v] := fun v => by
      have hs : (x.set t v)[t]? = some v := List.getElem?_set_self (by omega)
      rw [List.take_add_one, hs]
      congr 1
      apply List.ext_getElem?
      intro j
      rw [List.getElem?_take, List.getElem?_take]
      split
      · rw [List.getElem?_set_ne (by omega)]
      · rfl
    unfold onS
    rw [h0]
    simp only
    rw [runL_never _ _ ih]
    simp only [prodL]
    rw [foldl_flat]
    congr 1
    congr 1
    funext s v
    rw [List.foldl_map, htk]
    congr 1
    funext s w
    rw [List.append_assoc]; rfl
/-- The lists of all traits. -/
def listsT (m : Model) (x : List Span) : List (List Int) := x.zipIdx.map fun p => stepsS m p.2 p.1
theorem listsT_get {m : Model} {x : List Span} {j : Nat} {s : Span} (h : x[j]? = some s) : (listsT m x)[j]? = some (stepsS m j s) := by
  simp [listsT, List.getElem?_zipIdx, h]
theorem listsT_len {m : Model} {x : List Span} : (listsT m x).length = x.length := by simp [listsT]
theorem ends_fold (m : Model) (x : List Span) : endsOf m x = (prodL (listsT m x)).foldl (fun s v => updB s (score m v)) (true, 0, 0) := by
  unfold endsOf
  rw [onS_never (fun s v => updB s (score m v)) (listsOf m x) x.length 0 (List.replicate x.length 0) (true, 0, 0) (listsT m x) listsT_len (by simp) (fun j l hj => by
    have hjl : j < x.length := by have := get_lt hj; rw [listsT_len] at this; exact this
    have hy := List.getElem?_eq_getElem hjl
    rw [listsT_get hy] at hj
    cases hj
    unfold listsOf
    rw [Nat.zero_add, hy]; rfl)]
  simp
end S
end Go.Proofs.Ytecmlmngcnionaa
namespace Go.Proofs.Ytecmlmngcnionaa
open Go Go.Sx
namespace S
/-- Two values stand alike among the cuts of a trait. -/
def Alike (m : Model) (t : Nat) (a b : Int) : Prop := (a = -1 ↔ b = -1) ∧ ∀ c, CutOf m t c → (c ≤ a ↔ c ≤ b)
theorem Alike.refl (m : Model) (t : Nat) (a : Int) : Alike m t a a := ⟨Iff.rfl, fun _ _ => Iff.rfl⟩
section
variable {m : Model} {x y : List Int}
theorem onCard_alike {c : Card} (hc : c ∈ m.cards) (hl : c.scales.length = x.length) (hy : y.length = x.length) (h : ∀ (t : Nat) (a b : Int), x[t]? = some a → y[t]? = some b → Alike m t a b) : onCard c x = onCard c y := by
  unfold onCard parts
  congr 2
  refine List.map_congr_left fun p hp => ?_
  obtain ⟨j, hj⟩ := List.getElem?_of_mem hp
  rw [List.getElem?_zipIdx] at hj
  cases hs : c.scales[j]? with
  | none => rw [hs] at hj; cases hj
  | some s =>
    rw [hs] at hj
    have : p = (s, j) := by simpa using hj.symm
    subst this
    have hjl := get_lt hs
    have ha : x[j]? = some x[j] := List.getElem?_eq_getElem (by omega)
    have hb : y[j]? = some y[j] := List.getElem?_eq_getElem (by omega)
    obtain ⟨h1, h2⟩ := h j _ _ ha hb
    simp only [ha, hb, Option.getD_some]
    unfold onScale
    by_cases e : x[j] = -1
    · rw [if_pos e, if_pos (h1.1 e)]
    · rw [if_neg e, if_neg (fun e' => e (h1.2 e'))]
      have hf : s.cuts.filter (fun c => decide (c ≤ x[j])) = s.cuts.filter fun c => decide (c ≤ y[j]) := by
        refine List.filter_congr fun d hd => ?_
        have := h2 d (.inl ⟨c, hc, s, hs, hd⟩)
        exact decide_eq_decide.2 this
      rw [hf]
theorem onTree_alike {t : Tree} (ht : t ∈ m.trees) (hok : treeOk t m.traits = true) (hl : (x.length : Int) = m.traits) (hy : y.length = x.length) (h : ∀ (t : Nat) (a b : Int), x[t]? = some a → y[t]? = some b → Alike m t a b) : onTree t x = onTree t y := by
  have hn := (treeOk_iff.1 hok).2.2.2.2
  have key : ∀ (k : Nat) (i : Int), onTreeFrom t x k i = onTreeFrom t y k i := by
    intro k
    induction k with
    | zero => intro i; rfl
    | succ k ih =>
      intro i
      unfold onTreeFrom
      cases hg : t.nodes[i.toNat]? with
      | none => rfl
      | some n =>
        simp only
        by_cases e : n.trait = -1
        · rw [if_pos e, if_pos e]
        · rw [if_neg e, if_neg e]
          have hk := node_asks (hn _ n hg) e
          have ha : x[n.trait.toNat]? = some (x[n.trait.toNat]'(by omega)) := List.getElem?_eq_getElem (by omega)
          have hb : y[n.trait.toNat]? = some (y[n.trait.toNat]'(by omega)) := List.getElem?_eq_getElem (by omega)
          have := (h _ _ _ ha hb).2 n.cut (.inr ⟨t, ht, n, List.mem_of_getElem? hg, by omega, rfl⟩)
          rw [ha, hb, Option.getD_some, Option.getD_some, ih, ih]
          by_cases e1 : x[n.trait.toNat]'(by omega) < n.cut
          · rw [if_pos e1, if_pos (by omega)]
          · rw [if_neg e1, if_neg (by omega)]
  exact key _ _
theorem score_alike (hm : modelOk m = true) (hl : (x.length : Int) = m.traits) (hy : y.length = x.length) (h : ∀ (t : Nat) (a b : Int), x[t]? = some a → y[t]? = some b → Alike m t a b) : score m x = score m y := by
  obtain ⟨_, _, _, _, _, h6, h7⟩ := modelOk_iff.1 hm
  unfold score
  congr 1
  · congr 1
    refine List.map_congr_left fun c hc => ?_
    obtain ⟨j, hj⟩ := List.getElem?_of_mem hc
    have := (cardOk_iff.1 (h6 j c hj)).2.2.2.1
    rw [onCard_alike hc (by omega) hy h]
  · congr 1
    refine List.map_congr_left fun t ht => ?_
    obtain ⟨j, hj⟩ := List.getElem?_of_mem ht
    rw [onTree_alike ht (h7 j t hj) hl hy h]
end
theorem top_le : ∀ (L : List Int) (a : Int), (∃ v ∈ L, v ≤ a) → ∃ v ∈ L, v ≤ a ∧ ∀ u ∈ L, u ≤ a → u ≤ v
  | [], _, ⟨_, h, _⟩ => by cases h
  | b :: L, a, h => by
    by_cases hL : ∃ v ∈ L, v ≤ a
    · obtain ⟨v, h1, h2, h3⟩ := top_le L a hL
      by_cases hb : b ≤ a ∧ v < b
      · refine ⟨b, List.mem_cons_self .., hb.1, fun u hu hua => ?_⟩
        rcases List.mem_cons.1 hu with rfl | hu
        · exact Int.le_refl _
        · have := h3 u hu hua; omega
      · refine ⟨v, List.mem_cons_of_mem _ h1, h2, fun u hu hua => ?_⟩
        rcases List.mem_cons.1 hu with rfl | hu
        · omega
        · exact h3 u hu hua
    · obtain ⟨v, h1, h2⟩ := h
      rcases List.mem_cons.1 h1 with rfl | h1
      · refine ⟨v, List.mem_cons_self .., h2, fun u hu hua => ?_⟩
        rcases List.mem_cons.1 hu with rfl | hu
        · exact Int.le_refl _
        · exact absurd ⟨u, hu, hua⟩ hL
      · exact absurd ⟨v, h1, h2⟩ hL
/-- The step on which a value stands. -/
theorem step_of (m : Model) (t : Nat) {s : Span} {a : Int} (h0 : 0 ≤ s.lo) (h1 : s.lo ≤ a) (h2 : a ≤ s.hi) : ∃ v ∈ stepsS m t s, v ≤ a ∧ Alike m t v a := by
  have hg := (stepsS_good m t s).2
  have hlo : s.lo ∈ stepsS m t s := (hg _).2 (.inl rfl)
  obtain ⟨v, hv, h3, h4⟩ := top_le (stepsS m t s) a ⟨_, hlo, h1⟩
  have h5 := h4 _ hlo h1
  refine ⟨v, hv, h3, ⟨fun h => by omega, fun h => by omega⟩, fun c hc => ⟨fun h => by omega, fun h => ?_⟩⟩
  by_cases e : c ≤ s.lo
  · omega
  · exact h4 c ((hg c).2 (.inr ⟨hc, by omega, by omega⟩)) h
theorem steps_bd {m : Model} {t : Nat} {s : Span} {v : Int} (hs : s.lo ≤ s.hi) (hv : v ∈ stepsS m t s) : s.lo ≤ v ∧ v ≤ s.hi := by
  rcases ((stepsS_good m t s).2 v).1 hv with h | ⟨_, h1, h2⟩ <;> omega
theorem mem_prodL : ∀ {ls : List (List Int)} {v : List Int}, v ∈ prodL ls ↔ v.length = ls.length ∧ ∀ (j : Nat) (a : Int) (l : List Int), v[j]? = some a → ls[j]? = some l → a ∈ l
  | [], v => by
    simp only [prodL, List.mem_singleton, List.length_nil]
    constructor
    · rintro rfl; exact ⟨rfl, fun j a l h => by simp at h⟩
    · rintro ⟨h, _⟩; exact List.eq_nil_of_length_eq_zero h
  | l :: ls, [] => by
    simp only [prodL, List.mem_flatMap, List.mem_map, List.length_nil, List.length_cons]
    constructor
    · rintro ⟨_, _, _, _, h⟩; cases h
    · rintro ⟨h, _⟩; cases h
  | l :: ls, b :: v => by
    have ih := mem_prodL (ls := ls) (v := v)
    simp only [prodL, List.mem_flatMap, List.mem_map, List.length_cons]
    constructor
    · rintro ⟨b', hb, v', hv, e⟩
      cases e
      obtain ⟨h1, h2⟩ := ih.1 hv
      refine ⟨by omega, fun j a l' ha hl => ?_⟩
      cases j with
      | zero => simp at ha hl; subst ha hl; exact hb
      | succ j => exact h2 j a l' (by simpa using ha) (by simpa using hl)
    · rintro ⟨h1, h2⟩
      exact ⟨b, h2 0 b l rfl rfl, v, ih.2 ⟨by omega, fun j a l' ha hl => h2 (j + 1) a l' (by simpa using ha) (by simpa using hl)⟩, rfl⟩
theorem build {P : Nat → Int → Prop} : ∀ (n : Nat), (∀ j < n, ∃ v, P j v) → ∃ l : List Int, l.length = n ∧ ∀ (j : Nat) (a : Int), l[j]? = some a → P j a
  | 0, _ => ⟨[], rfl, fun j a h => by simp at h⟩
  | n + 1, h => by
    obtain ⟨l, h1, h2⟩ := build (P := P) n fun j hj => h j (by omega)
    obtain ⟨v, hv⟩ := h n (by omega)
    refine ⟨l ++ [v], by simp [h1], fun j a ha => ?_⟩
    rw [List.getElem?_append] at ha
    split at ha
    · exact h2 j a ha
    · rename_i hj
      have hlt := get_lt ha
      have : j - l.length = 0 := by simp at hlt; omega
      rw [this] at ha
      have : v = a := by simpa using ha
      have : j = n := by omega
      subst this; simp_all
/-- Values within spans. -/
def InSpans (x : List Span) (y : List Int) : Prop := y.length = x.length ∧ ∀ (j : Nat) (a : Int) (s : Span), y[j]? = some a → x[j]? = some s → s.lo ≤ a ∧ a ≤ s.hi
theorem okSpan_iff {s : Span} : okSpan s = true ↔ 0 ≤ s.lo ∧ s.lo ≤ s.hi ∧ s.hi ≤ 1000000 := by
  unfold okSpan
  rw [decide_eq_true_eq]; omega
section
variable {m : Model} {x : List Span}
theorem in_get (hall : x.all okSpan = true) {j : Nat} {s : Span} (h : x[j]? = some s) : 0 ≤ s.lo ∧ s.lo ≤ s.hi ∧ s.hi ≤ 1000000 := okSpan_iff.1 (List.all_eq_true.1 hall s (List.mem_of_getElem? h))
theorem InSpans.valuesOk {y : List Int} (hall : x.all okSpan = true) (hlen : (x.length : Int) = m.traits) (h : InSpans x y) : valuesOk m y = true := by
  refine valuesOk_iff.2 ⟨by have := h.1; omega, fun j a ha => ?_⟩
  have hj := get_lt ha
  have hs : x[j]? = some (x[j]'(by have := h.1; omega)) := List.getElem?_eq_getElem (by have := h.1; omega)
  have h1 := h.2 j a _ ha hs
  have h2 := in_get hall hs
  omega
theorem prod_in (hall : x.all okSpan = true) {v : List Int} (hv : v ∈ prodL (listsT m x)) : InSpans x v := by
  obtain ⟨h1, h2⟩ := mem_prodL.1 hv
  rw [listsT_len] at h1
  exact ⟨h1, fun j a s ha hs => steps_bd (in_get hall hs).2.1 (h2 j a _ ha (listsT_get hs))⟩
theorem in_prod (hm : modelOk m = true) (hlen : (x.length : Int) = m.traits) (hall : x.all okSpan = true) {y : List Int} (h : InSpans x y) :
    ∃ v ∈ prodL (listsT m x), score m v = score m y ∧ ∀ (j : Nat) (a b : Int), v[j]? = some a → y[j]? = some b → a ≤ b := by
  obtain ⟨v, h1, h2⟩ := build (P := fun j a => ∀ b s, y[j]? = some b → x[j]? = some s → a ∈ stepsS m j s ∧ a ≤ b ∧ Alike m j a b) x.length fun j hj => by
    have hs : x[j]? = some x[j] := List.getElem?_eq_getElem hj
    have hb : y[j]? = some (y[j]'(by have := h.1; omega)) := List.getElem?_eq_getElem (by have := h.1; omega)
    have h3 := h.2 j _ _ hb hs
    obtain ⟨v, hv⟩ := step_of m j (in_get hall hs).1 h3.1 h3.2
    exact ⟨v, fun b s hb' hs' => by rw [hb] at hb'; rw [hs] at hs'; cases hb'; cases hs'; exact hv⟩
  have get : ∀ (j : Nat) (a b : Int), v[j]? = some a → y[j]? = some b → ∃ s, x[j]? = some s ∧ a ∈ stepsS m j s ∧ a ≤ b ∧ Alike m j a b := fun j a b ha hb => by
    have hj := get_lt ha
    have hs : x[j]? = some (x[j]'(by omega)) := List.getElem?_eq_getElem (by omega)
    exact ⟨_, hs, h2 j a ha b _ hb hs⟩
  refine ⟨v, mem_prodL.2 ⟨by rw [listsT_len, h1], fun j a l ha hl => ?_⟩, score_alike hm (by omega) (by have := h.1; omega) (fun t a b ha hb => (get t a b ha hb).choose_spec.2.2.2), fun j a b ha hb => (get j a b ha hb).choose_spec.2.2.1⟩
  have hj := get_lt ha
  have hb : y[j]? = some (y[j]'(by have := h.1; omega)) := List.getElem?_eq_getElem (by have := h.1; omega)
  obtain ⟨s, hs, h3, _⟩ := get j a _ ha hb
  rw [listsT_get hs] at hl
  cases hl; exact h3
theorem listsT_ne' : ∀ l ∈ listsT m x, l ≠ [] := by
  intro l hl h
  obtain ⟨t, ht⟩ := List.getElem?_of_mem hl
  have hjl : t < x.length := by have := get_lt ht; rw [listsT_len] at this; exact this
  have hy : x[t]? = some x[t] := List.getElem?_eq_getElem hjl
  rw [listsT_get hy] at ht
  have e : stepsS m t x[t] = l := Option.some.inj ht
  have := ((stepsS_good m t x[t]).2 (x[t]).lo).2 (.inl rfl)
  rw [e, h] at this; cases this
theorem updB_fold (f : List Int → Int) : ∀ (L : List (List Int)) (lo hi : Int), ∃ lo' hi', L.foldl (fun s v => updB s (f v)) (false, lo, hi) = (false, lo', hi') ∧ lo' ≤ lo ∧ hi ≤ hi' ∧ (∀ v ∈ L, lo' ≤ f v ∧ f v ≤ hi') ∧ (lo' = lo ∨ ∃ v ∈ L, f v = lo') ∧ (hi' = hi ∨ ∃ v ∈ L, f v = hi')
  | [], lo, hi => ⟨lo, hi, rfl, Int.le_refl _, Int.le_refl _, (fun v h => by cases h), .inl rfl, .inl rfl⟩
  | v :: L, lo, hi => by
    obtain ⟨lo', hi', h1, h2, h3, h4, h5, h6⟩ := updB_fold f L (min lo (f v)) (max hi (f v))
    have g : lo' ≤ lo ∧ lo' ≤ f v ∧ hi ≤ hi' ∧ f v ≤ hi' := by
      clear h1 h4 h5 h6; omega
    refine ⟨lo', hi', by rw [List.foldl_cons]; exact h1, g.1, g.2.2.1, fun u hu => ?_, ?_, ?_⟩
    · rcases List.mem_cons.1 hu with rfl | hu
      · exact ⟨g.2.1, g.2.2.2⟩
      · exact h4 u hu
    · clear h6 h4 h1
      rcases h5 with h | ⟨u, hu, h⟩
      · by_cases e : lo ≤ f v
        · left; omega
        · right; exact ⟨v, List.mem_cons_self .., by omega⟩
      · right; exact ⟨u, List.mem_cons_of_mem _ hu, h⟩
    · clear h5 h4 h1
      rcases h6 with h | ⟨u, hu, h⟩
      · by_cases e : f v ≤ hi
        · left; omega
        · right; exact ⟨v, List.mem_cons_self .., by omega⟩
      · right; exact ⟨u, List.mem_cons_of_mem _ hu, h⟩
/-- The least and the greatest score within spans. -/
theorem ends_char (hm : modelOk m = true) (hlen : (x.length : Int) = m.traits) (hall : x.all okSpan = true) :
    (∀ y, InSpans x y → (endsOf m x).2.1 ≤ score m y ∧ score m y ≤ (endsOf m x).2.2) ∧ (∃ y, InSpans x y ∧ score m y = (endsOf m x).2.1) ∧ ∃ y, InSpans x y ∧ score m y = (endsOf m x).2.2 := by
  rw [ends_fold]
  have hz := prodL_zero (listsT m x) listsT_ne'
  cases hL : prodL (listsT m x) with
  | nil => rw [hL] at hz; cases hz
  | cons v L =>
    obtain ⟨lo', hi', h1, h2, h3, h4, h5, h6⟩ := updB_fold (score m) L (score m v) (score m v)
    have e : (v :: L).foldl (fun s v => updB s (score m v)) (true, 0, 0) = (false, lo', hi') := by
      rw [List.foldl_cons, show updB (true, 0, 0) (score m v) = (false, score m v, score m v) by simp [updB]]; exact h1
    rw [e]
    have hin : ∀ u ∈ v :: L, InSpans x u := fun u hu => prod_in (m := m) hall (by rw [hL]; exact hu)
    refine ⟨fun y hy => ?_, ?_, ?_⟩
    · obtain ⟨u, hu, h7, _⟩ := in_prod hm hlen hall hy
      rw [hL] at hu
      rw [← h7]
      rcases List.mem_cons.1 hu with rfl | hu
      · exact ⟨h2, h3⟩
      · exact h4 u hu
    · rcases h5 with h | ⟨u, hu, h⟩
      · exact ⟨v, hin v (List.mem_cons_self ..), h.symm⟩
      · exact ⟨u, hin u (List.mem_cons_of_mem _ hu), h⟩
    · rcases h6 with h | ⟨u, hu, h⟩
      · exact ⟨v, hin v (List.mem_cons_self ..), h.symm⟩
      · exact ⟨u, hin u (List.mem_cons_of_mem _ hu), h⟩
end
end S
end Go.Proofs.Ytecmlmngcnionaa
namespace Go.Proofs.Ytecmlmngcnionaa
open Go Go.Sx
namespace S
def U32 (l : List Int) : Prop := ∀ v ∈ l, 0 ≤ v ∧ v ≤ 4294967295
theorem r_at {l : List Int} {i : Int} {Q : Int → Prop} (hl : U32 l) (hi : 0 ≤ i) (q : ∀ z, 0 ≤ z → z ≤ 4294967295 → Q z) : Ret (P.law06_at l i) Q := by
  unfold P.law06_at
  refine Ret.cond (fun _ => Ret.ok (q 0 (by omega) (by omega))) fun h => ?_
  have h := of_decide_eq_false h
  have hm := Int.emod_lt_of_pos i (show (0 : Int) < l.length by omega)
  have hm0 := Int.emod_nonneg i (show (l.length : Int) ≠ 0 by omega)
  refine Ret.bind (Ret.remO hi (by omega) ?_)
  refine Ret.bind (Ret.ixoI hm0 hm fun y hy => ?_)
  have := hl y (List.mem_of_getElem? hy)
  exact Ret.ok (q y this.1 this.2)
theorem r_ready {m : Model} {x : List Int} {Q : Bool → Prop} (h1 : Small m → modelOk m = true → valuesOk m x = true → Q true) (h2 : Q false) : Ret (P.law06_ready m x) Q := by
  unfold P.law06_ready
  rw [show (Model.mk m.traits m.cards m.trees m.need) = m from rfl]
  refine Ret.bind (Ret.bind (Ret.val (p_great m) (Ret.cond (fun h => ?_) fun h => Ret.ok (Ret.ok h2))))
  have hg : great m = false := by simpa using h
  have hs := small_of hg
  refine Ret.bind (Ret.val (p_check m hs.cards hs.trees hs.scales hs.nodes) (Ret.cond (fun h => ?_) fun h => Ret.ok (Ret.ok h2)))
  have hm := check_ok (of_decide_eq_true h)
  have ht := (modelOk_iff.1 hm).2.1
  by_cases hx : (x.length : Int) = m.traits
  · refine Ret.bind (Ret.val (p_values m x (by omega)) (Ret.ok (Ret.ok ?_)))
    cases hv : valuesOk m x with
    | true => exact h1 hs hm hv
    | false => exact h2
  · have : P.ref06_Values m x = some false := by
      unfold P.ref06_Values
      rw [decide_eq_false hx]; rfl
    exact Ret.bind (Ret.val this (Ret.ok (Ret.ok h2)))
theorem r_Steps {m : Model} {t : Nat} {Q : List Int → Prop} (hm : modelOk m = true) (ht : (t : Int) < m.traits) (q : Q (stepsS m t (Span.mk 0 1000000))) : Ret (P.ref06_Steps m (t : Int)) Q := by
  unfold P.ref06_Steps
  rw [show (Model.mk m.traits m.cards m.trees m.need) = m from rfl]
  exact Ret.bind (Ret.val (p_steps m t _ hm ht) (Ret.ok q))
theorem r_Score {m : Model} {x : List Int} {Q : Int × Bool × Int → Prop} (hs : Small m) (hm : modelOk m = true) (hx : valuesOk m x = true) (q : Q (score m x, decide (1000 * m.need ≤ score m x), 0)) : Ret (P.score_Score m x) Q := by
  have hl := (valuesOk_iff.1 hx).1
  have ht := (modelOk_iff.1 hm).2.1
  refine Ret.val (p_SScore m x hs (by omega)) ?_
  unfold err
  simp only [hm, hx, Bool.and_self, if_true, Bool.true_and]
  exact q
theorem r_valid {α : Type} {m : Model} {x : List α} {Q : Bool → Prop} (h1 : Small m → modelOk m = true → (x.length : Int) = m.traits → Q false) (h2 : Q true) :
    Ret (Option.bind (P.ref06_Great m) fun z13 => cond z13 (some true) (Option.bind (P.ref06_Check m) fun z19 => cond (!decide (z19 = 0)) (some true) (some (!decide ((x.length : Int) = m.traits))))) Q := by
  refine Ret.bind (Ret.val (p_great m) (Ret.cond (fun h => Ret.ok h2) fun hg => ?_))
  have hs := small_of hg
  refine Ret.bind (Ret.val (p_check m hs.cards hs.trees hs.scales hs.nodes) (Ret.cond (fun h => Ret.ok h2) fun h => ?_))
  have hm : modelOk m = true := check_ok (by simpa using h)
  by_cases hx : (x.length : Int) = m.traits
  · rw [decide_eq_true hx]; exact Ret.ok (h1 hs hm hx)
  · rw [decide_eq_false hx]; exact Ret.ok h2
theorem r_Between {m : Model} {x : List Span} {Q : Span × Int → Prop} (hs : Small m) (hm : modelOk m = true) (hlen : (x.length : Int) = m.traits) (hall : x.all okSpan = true)
    (q : ∀ s : Span, (∀ y, InSpans x y → s.lo ≤ score m y ∧ score m y ≤ s.hi) → (∃ y, InSpans x y ∧ score m y = s.lo) → (∃ y, InSpans x y ∧ score m y = s.hi) → Q (s, 0)) : Ret (P.score_Between m x) Q := by
  have ht := (modelOk_iff.1 hm).2.1
  obtain ⟨h1, h2, h3⟩ := ends_char hm hlen hall
  refine Ret.val (a := betweenS m x) ?_ ?_
  · unfold P.score_Between; rw [if_pos ⟨hs, by omega⟩]
  · unfold betweenS
    rw [if_neg (by rw [hm]; simp), if_neg (fun h => h hlen), if_pos hall]
    exact q _ h1 h2 h3
theorem mod_in {a n : Int} (ha : 0 ≤ a) (hn : 0 < n) : 0 ≤ a % n ∧ a % n < n := ⟨Int.emod_nonneg a (by omega), Int.emod_lt_of_pos a hn⟩
/-- Two values of a trait between the same steps stand alike. -/
theorem alike_of {m : Model} {t : Nat} {a b lo hi : Int} (h0 : 0 ≤ a ∧ a ≤ 1000000) (hb : lo ≤ b ∧ b ≤ hi) (h1 : 0 ≤ lo) (h2 : hi ≤ 1000000) (hc : ∀ c ∈ stepsS m t (Span.mk 0 1000000), (c ≤ a → c ≤ lo) ∧ (a < c → hi < c)) : Alike m t a b := by
  refine ⟨⟨fun h => by omega, fun h => by omega⟩, fun c hcut => ?_⟩
  by_cases e : 0 < c ∧ c ≤ 1000000
  · have := hc c (((stepsS_good m t (Span.mk 0 1000000)).2 c).2 (.inr ⟨hcut, e.1, e.2⟩))
    by_cases e2 : c ≤ a
    · have := this.1 e2; omega
    · have := this.2 (by omega); omega
  · omega
end S
end Go.Proofs.Ytecmlmngcnionaa
