/-
  Part 8 of the texts that the statement's proof stands on: what memory holds, how code is walked, what the functions reckon. In the order in which they build.
-/

import Derived.Test.YtecmlmngcnionaaSe7
set_option linter.unusedVariables false
set_option maxRecDepth 20000
namespace Go.Proofs.Ytecmlmngcnionaa
open Go Go.Sx Go.RowKit
noncomputable def P.law06_model  : Option Model :=
 some (Model.mk 2 ([(Card.mk 1000 20 ([(Scale.mk ([10, 20] : List Int) ([0, 15, 30] : List Int) 5), (Scale.mk ([100] : List Int) ([25, (-10)] : List Int) 0)] : List Scale))] : List Card) ([(Tree.mk 500 ([(Node.mk 1 50 1 2 0), (Node.mk (-1) 0 0 0 8), (Node.mk (-1) 0 0 0 (-40))] : List Node))] : List Tree) 50)
theorem C_law06_model {M : List Nat} {w : World} (hM : MLt M w)  {r0 : Model} (h : P.law06_model  = some r0) :
  Calls Try.prog 30 (List.toArray []) w fun e w' => ∃ v0_1 : Value, ∃ v0_2 : Value, e = .returned (Value.agg (List.toArray [Value.int .i64 r0.traits, v0_1, v0_2, Value.int .i64 r0.need])) ∧ InK .i64 r0.traits ∧ RdS CardE M w' v0_1 r0.cards ∧ RdS TreeE M w' v0_2 r0.trees ∧ InK .i64 r0.need ∧ Ext w w' := by
 have hI := Hp.start (Mu := []) hM
 refine calls_cw Try.func30 rfl Try.ntmps30 rfl ?_
 refine cw_seq (cw_regF ?_)
 refine y_al hI Try.zeroValue25 rfl rfl ?_
 intro b1 w2 hI3 x4
 refine Reg.nil ?_
 refine cw_seq (cw_regF ?_)
 refine y_bs (E := (intE .i64)) (xs := [10, 20]) sl26 hI3 rfl rfl (Cls.cons rfl (Cls.cons rfl Cls.nil)) (Chs.cons ⟨rfl, (by decide)⟩ (Chs.cons ⟨rfl, (by decide)⟩ Chs.nil)) rfl rfl ?_
 intro v5 w6 hI7 x8
 refine y_bs (E := (intE .i64)) (xs := [0, 15, 30]) sl26 hI7 rfl rfl (Cls.cons rfl (Cls.cons rfl (Cls.cons rfl Cls.nil))) (Chs.cons ⟨rfl, (by decide)⟩ (Chs.cons ⟨rfl, (by decide)⟩ (Chs.cons ⟨rfl, (by decide)⟩ Chs.nil))) rfl rfl ?_
 intro v9 w10 hI11 x12
 refine s_bd [(0, 1), (1, 1), (2, 1)] Try.zeroValue56 rfl Try.underlying56 (fun _ => by simp [Try.sizeOf26, Try.sizeOf3]) rfl (Cls.cons (Own.cells1 (hI11.ownAt 1 rfl)) (Cls.cons (Own.cells1 (hI11.ownAt 0 rfl)) (Cls.cons rfl (Cls.nil)))) rfl rfl ?_
 refine y_bs (E := (intE .i64)) (xs := [100]) sl26 hI11 rfl rfl (Cls.cons rfl Cls.nil) (Chs.cons ⟨rfl, (by decide)⟩ Chs.nil) rfl rfl ?_
 intro v13 w14 hI15 x16
 refine y_bs (E := (intE .i64)) (xs := [25, (-10)]) sl26 hI15 rfl rfl (Cls.cons rfl (Cls.cons rfl Cls.nil)) (Chs.cons ⟨rfl, (by decide)⟩ (Chs.cons ⟨rfl, (by decide)⟩ Chs.nil)) rfl rfl ?_
 intro v17 w18 hI19 x20
 refine s_bd [(0, 1), (1, 1), (2, 1)] Try.zeroValue56 rfl Try.underlying56 (fun _ => by simp [Try.sizeOf26, Try.sizeOf3]) rfl (Cls.cons (Own.cells1 (hI19.ownAt 1 rfl)) (Cls.cons (Own.cells1 (hI19.ownAt 0 rfl)) (Cls.nil))) rfl rfl ?_
 have hf21 := hI19.freeze 3 rfl
 have hI22 := hI19.erase 3
 have hf23 := hI22.freeze 2 rfl
 have hI24 := hI22.erase 2
 have hf25 := hI24.freeze 1 rfl
 have hI26 := hI24.erase 1
 have hf27 := hI26.freeze 0 rfl
 have hI28 := hI26.erase 0
 refine y_bs (E := ScaleE) (xs := [(Scale.mk ([10, 20] : List Int) ([0, 15, 30] : List Int) 5), (Scale.mk ([100] : List Int) ([25, (-10)] : List Int) 0)]) sl52 hI28 rfl rfl (Cls.cons rfl (Cls.cons rfl Cls.nil)) (Chs.cons ((ScaleE_R (x := (Scale.mk ([10, 20] : List Int) ([0, 15, 30] : List Int) 5))).2 ⟨_, _, rfl, (hf21.adv ((Hp.eraseA (σ := [ownR [] (intE .i64) 3 v17 ([25, (-10)] : List Int), ownR [] (intE .i64) 3 v13 ([100] : List Int), ownR [] (intE .i64) 3 v9 ([0, 15, 30] : List Int), rowR 25 b1 [Value.int .i64 0, Value.slice none 0 0, Value.slice none 0 0, Value.int .i64 0]]) 2).trans ((Hp.eraseA (σ := [ownR [] (intE .i64) 3 v17 ([25, (-10)] : List Int), ownR [] (intE .i64) 3 v13 ([100] : List Int), rowR 25 b1 [Value.int .i64 0, Value.slice none 0 0, Value.slice none 0 0, Value.int .i64 0]]) 1).trans (Hp.eraseA (σ := [ownR [] (intE .i64) 3 v17 ([25, (-10)] : List Int), rowR 25 b1 [Value.int .i64 0, Value.slice none 0 0, Value.slice none 0 0, Value.int .i64 0]]) 0)))), (hf23.adv ((Hp.eraseA (σ := [ownR [] (intE .i64) 3 v17 ([25, (-10)] : List Int), ownR [] (intE .i64) 3 v13 ([100] : List Int), rowR 25 b1 [Value.int .i64 0, Value.slice none 0 0, Value.slice none 0 0, Value.int .i64 0]]) 1).trans (Hp.eraseA (σ := [ownR [] (intE .i64) 3 v17 ([25, (-10)] : List Int), rowR 25 b1 [Value.int .i64 0, Value.slice none 0 0, Value.slice none 0 0, Value.int .i64 0]]) 0))), (by decide)⟩) (Chs.cons ((ScaleE_R (x := (Scale.mk ([100] : List Int) ([25, (-10)] : List Int) 0))).2 ⟨_, _, rfl, (hf25.adv (Hp.eraseA (σ := [ownR [] (intE .i64) 3 v17 ([25, (-10)] : List Int), rowR 25 b1 [Value.int .i64 0, Value.slice none 0 0, Value.slice none 0 0, Value.int .i64 0]]) 0)), hf27, (by decide)⟩) Chs.nil)) rfl rfl ?_
 intro v29 w30 hI31 x32
 refine s_bd [(0, 1), (1, 1), (2, 1)] Try.zeroValue54 rfl Try.underlying54 (fun _ => by simp [Try.sizeOf3, Try.sizeOf52]) rfl (Cls.cons rfl (Cls.cons rfl (Cls.cons (Own.cells1 (hI31.ownAt 0 rfl)) (Cls.nil)))) rfl rfl ?_
 have hf33 := hI31.freeze 0 rfl
 have hI34 := hI31.erase 0
 refine y_bs (E := CardE) (xs := [(Card.mk 1000 20 ([(Scale.mk ([10, 20] : List Int) ([0, 15, 30] : List Int) 5), (Scale.mk ([100] : List Int) ([25, (-10)] : List Int) 0)] : List Scale))]) sl22 hI34 rfl rfl (Cls.cons rfl Cls.nil) (Chs.cons ((CardE_R (x := (Card.mk 1000 20 ([(Scale.mk ([10, 20] : List Int) ([0, 15, 30] : List Int) 5), (Scale.mk ([100] : List Int) ([25, (-10)] : List Int) 0)] : List Scale)))).2 ⟨_, rfl, (by decide), (by decide), hf33⟩) Chs.nil) rfl rfl ?_
 intro v35 w36 hI37 x38
 refine s_bd [(0, 1), (1, 1), (2, 1), (3, 1), (4, 1)] Try.zeroValue62 rfl Try.underlying62 (fun _ => by simp [Try.sizeOf3]) rfl (Cls.cons rfl (Cls.cons rfl (Cls.cons rfl (Cls.cons rfl (Cls.nil))))) rfl rfl ?_
 refine s_bd [(0, 1), (1, 1), (2, 1), (3, 1), (4, 1)] Try.zeroValue62 rfl Try.underlying62 (fun _ => by simp [Try.sizeOf3]) rfl (Cls.cons rfl (Cls.cons rfl (Cls.nil))) rfl rfl ?_
 refine s_bd [(0, 1), (1, 1), (2, 1), (3, 1), (4, 1)] Try.zeroValue62 rfl Try.underlying62 (fun _ => by simp [Try.sizeOf3]) rfl (Cls.cons rfl (Cls.cons rfl (Cls.nil))) rfl rfl ?_
 refine y_bs (E := NodeE) (xs := [(Node.mk 1 50 1 2 0), (Node.mk (-1) 0 0 0 8), (Node.mk (-1) 0 0 0 (-40))]) sl57 hI37 rfl rfl (Cls.cons rfl (Cls.cons rfl (Cls.cons rfl Cls.nil))) (Chs.cons ((NodeE_R (x := (Node.mk 1 50 1 2 0))).2 ⟨rfl, (by decide), (by decide), (by decide), (by decide), (by decide)⟩) (Chs.cons ((NodeE_R (x := (Node.mk (-1) 0 0 0 8))).2 ⟨rfl, (by decide), (by decide), (by decide), (by decide), (by decide)⟩) (Chs.cons ((NodeE_R (x := (Node.mk (-1) 0 0 0 (-40)))).2 ⟨rfl, (by decide), (by decide), (by decide), (by decide), (by decide)⟩) Chs.nil))) rfl rfl ?_
 intro v39 w40 hI41 x42
 refine s_bd [(0, 1), (1, 1)] Try.zeroValue59 rfl Try.underlying59 (fun _ => by simp [Try.sizeOf3, Try.sizeOf57]) rfl (Cls.cons rfl (Cls.cons (Own.cells1 (hI41.ownAt 0 rfl)) (Cls.nil))) rfl rfl ?_
 have hf43 := hI41.freeze 0 rfl
 have hI44 := hI41.erase 0
 refine y_bs (E := TreeE) (xs := [(Tree.mk 500 ([(Node.mk 1 50 1 2 0), (Node.mk (-1) 0 0 0 8), (Node.mk (-1) 0 0 0 (-40))] : List Node))]) sl23 hI44 rfl rfl (Cls.cons rfl Cls.nil) (Chs.cons ((TreeE_R (x := (Tree.mk 500 ([(Node.mk 1 50 1 2 0), (Node.mk (-1) 0 0 0 8), (Node.mk (-1) 0 0 0 (-40))] : List Node)))).2 ⟨_, rfl, (by decide), hf43⟩) Chs.nil) rfl rfl ?_
 intro v45 w46 hI47 x48
 refine s_bd [(0, 1), (1, 1), (2, 1), (3, 1)] Try.zeroValue25 rfl Try.underlying25 (fun _ => by simp [Try.sizeOf22, Try.sizeOf23, Try.sizeOf3]) rfl (Cls.cons rfl (Cls.cons rfl (Cls.cons (Own.cells1 (hI47.ownAt 1 rfl)) (Cls.cons (Own.cells1 (hI47.ownAt 0 rfl)) (Cls.nil))))) rfl rfl ?_
 refine y_st 2 hI47 rfl rfl rfl rfl Try.sizeOf25 rfl rfl (one1 rfl (one1 (Own.oneC (hI47.ownAt 1 rfl)) (one1 (Own.oneC (hI47.ownAt 0 rfl)) (one1 rfl one0)))) ?_
 intro w49 hI50 x51
 refine Reg.nil ?_
 refine cw_ret ?_
 obtain rfl := Option.some.inj h
 have hf52 := hI50.freeze 1 rfl
 have hI53 := hI50.erase 1
 have hf54 := hI53.freeze 0 rfl
 have hI55 := hI53.erase 0
 refine fin_any Try.results30 (AllRs.cons (RsOk.agg rfl (hI55.row 0 rfl).rd.cells Try.isAgg25 rfl Try.sizeOf25) (AllRs.nil)) rfl ?_
 exact ⟨_, _, rfl, (by decide), ((hf52.adv (Hp.eraseA (σ := [ownR [] TreeE 59 v45 ([(Tree.mk 500 ([(Node.mk 1 50 1 2 0), (Node.mk (-1) 0 0 0 8), (Node.mk (-1) 0 0 0 (-40))] : List Node))] : List Tree), rowR 25 b1 [Value.int .i64 2, v35, v45, Value.int .i64 50]]) 0)).adv (Hp.baseA (σ := [rowR 25 b1 [Value.int .i64 2, v35, v45, Value.int .i64 50]]))), (hf54.adv (Hp.baseA (σ := [rowR 25 b1 [Value.int .i64 2, v35, v45, Value.int .i64 50]]))), (by decide), hI55.kp⟩
noncomputable def P.law06_span (lo : Int) (hi : Int) : Option Span :=
 some (Span.mk lo hi)
theorem C_law06_span {M : List Nat} {w : World} (hM : MLt M w) {lo : Int} (f_lo_0 : InK .i64 lo) {hi : Int} (f_hi_0 : InK .i64 hi) {r0 : Span} (h : P.law06_span lo hi = some r0) :
  Calls Try.prog 29 (List.toArray [Value.int .i64 lo, Value.int .i64 hi]) w fun e w' => e = .returned (Value.agg (List.toArray [Value.int .i64 r0.lo, Value.int .i64 r0.hi])) ∧ InK .i64 r0.lo ∧ InK .i64 r0.hi ∧ Ext w w' := by
 have hI := Hp.start (Mu := []) hM
 refine calls_cw Try.func29 rfl Try.ntmps29 rfl ?_
 refine cw_seq (cw_regF ?_)
 refine y_al hI Try.zeroValue45 rfl rfl ?_
 intro b1 w2 hI3 x4
 refine Reg.nil ?_
 refine cw_seq (cw_regF ?_)
 refine s_mv rfl rfl ?_
 refine s_mv rfl rfl ?_
 refine s_bd [(0, 1), (1, 1)] Try.zeroValue45 rfl Try.underlying45 (fun _ => by simp [Try.sizeOf3]) rfl (Cls.cons rfl (Cls.cons rfl (Cls.nil))) rfl rfl ?_
 refine y_st 0 hI3 rfl rfl rfl rfl Try.sizeOf45 rfl rfl (one1 rfl (one1 rfl one0)) ?_
 intro w5 hI6 x7
 refine Reg.nil ?_
 refine cw_ret ?_
 obtain rfl := Option.some.inj h
 refine fin_any Try.results29 (AllRs.cons (RsOk.agg rfl (hI6.row 0 rfl).rd.cells Try.isAgg45 rfl Try.sizeOf45) (AllRs.nil)) rfl ?_
 exact ⟨rfl, f_lo_0, f_hi_0, hI6.kp⟩
noncomputable def P.law06_alive  : Option Bool :=
 Option.bind (P.law06_model ) fun z1 => Option.bind (P.score_Score z1 ([12, 30] : List Int)) fun (z16, z17, z18) => Option.bind (P.law06_model ) fun z25 => Option.bind (P.score_Points z25 ([(-1), 200] : List Int)) fun (z42, z43) => Option.bind (P.law06_model ) fun z51 => Option.bind (P.law06_span 0 15) fun z62 => Option.bind (P.law06_span 40 60) fun z69 => Option.bind (P.score_Between z51 ([z62, z69] : List Span)) fun (z80, z81) => Option.bind (P.law06_model ) fun z98 => Option.bind (P.score_Reasons z98 ([5, 200] : List Int)) fun (z115, z116, z117) => Option.bind (cond (decide (z18 = 0)) (cond (decide (z16 = 64000)) (cond z17 (cond (decide (z43 = 0)) (Option.bind (P.ref01_SameInts z42 ([15, (-40)] : List Int)) fun z140 => cond z140 (cond (decide (z81 = 0)) (Option.bind (P.law06_span 25000 64000) fun z148 => cond (decide ((Span.mk z80.lo z80.hi) = z148)) (cond (decide (z117 = 0)) (Option.bind (P.ref01_SameInts z115 ([0, 1] : List Int)) fun z165 => cond z165 (Option.bind (P.ref01_SameInts z116 ([10, 0] : List Int)) fun z181 => some z181) (some false)) (some false)) (some false)) (some false)) (some false)) (some false)) (some false)) (some false)) (some false)) fun x217 => some x217
theorem C_law06_alive {M : List Nat} {w : World} (hM : MLt M w)  {r0 : Bool} (h : P.law06_alive  = some r0) :
  Calls Try.prog 24 (List.toArray []) w fun e w' => e = .returned (Value.bool r0) ∧ Ext w w' := by
 have hI := Hp.start (Mu := []) hM
 refine calls_cw Try.func24 rfl Try.ntmps24 rfl ?_
 refine cw_seq (cw_regF ?_)
 refine s_as rfl rfl ?_
 refine Reg.nil ?_
 refine cw_seq (cw_regF ?_)
 obtain ⟨z1, hz2, h⟩ := bnd h
 refine s_call rfl Try.call30 rfl ?_
 refine (C_law06_model hI.mlt hz2).mono ?_
 rintro _ w3 ⟨v6, v8, rfl, r5, hf7, hf9, r10, e4⟩
 refine ⟨_, rfl, ?_⟩
 have hI11 := hI.ext e4
 refine y_bs (E := (intE .i64)) (xs := [12, 30]) sl26 hI11 rfl rfl (Cls.cons rfl (Cls.cons rfl Cls.nil)) (Chs.cons ⟨rfl, (by decide)⟩ (Chs.cons ⟨rfl, (by decide)⟩ Chs.nil)) rfl rfl ?_
 intro v12 w13 hI14 x15
 obtain ⟨⟨z16, z17, z18⟩, hz19, h⟩ := bnd h
 refine s_call rfl Try.call14 rfl ?_
 refine (C_score_Score (hI14.sel [] rfl).mlt r5 ((hf7.adv x15).adv (Hp.selA (σ := [ownR [] (intE .i64) 3 v12 ([12, 30] : List Int)]) [])) ((hf9.adv x15).adv (Hp.selA (σ := [ownR [] (intE .i64) 3 v12 ([12, 30] : List Int)]) [])) r10 (hI14.lendRd [] 0 rfl rfl) hz19).mono ?_
 rintro _ w20 ⟨rfl, r22, r23, e21⟩
 refine ⟨_, rfl, ?_⟩
 have hI24 := hI14.ext e21
 refine s_mv rfl rfl ?_
 refine s_xt rfl rfl rfl ?_
 refine s_xt rfl rfl rfl ?_
 refine s_xt rfl rfl rfl ?_
 refine s_as rfl rfl ?_
 refine s_as rfl rfl ?_
 refine s_as rfl rfl ?_
 refine Reg.nil ?_
 refine cw_seq (cw_regF ?_)
 obtain ⟨z25, hz26, h⟩ := bnd h
 refine s_call rfl Try.call30 rfl ?_
 refine (C_law06_model hI24.mlt hz26).mono ?_
 rintro _ w27 ⟨v30, v32, rfl, r29, hf31, hf33, r34, e28⟩
 refine ⟨_, rfl, ?_⟩
 have hI35 := hI24.ext e28
 refine y_bs (E := (intE .i64)) (xs := [(-1), 200]) sl26 hI35 rfl rfl (Cls.cons rfl (Cls.cons rfl Cls.nil)) (Chs.cons ⟨rfl, (by decide)⟩ (Chs.cons ⟨rfl, (by decide)⟩ Chs.nil)) rfl rfl ?_
 intro v36 w37 hI38 x39
 have hf40 := hI38.freeze 0 rfl
 have hI41 := hI38.erase 0
 obtain ⟨⟨z42, z43⟩, hz44, h⟩ := bnd h
 refine s_call rfl Try.call16 rfl ?_
 refine (C_score_Points hI41.mlt r29 (hf31.adv (x39.trans (Hp.eraseA (σ := [ownR [] (intE .i64) 3 v36 ([(-1), 200] : List Int), ownR [] (intE .i64) 3 v12 ([12, 30] : List Int)]) 0))) (hf33.adv (x39.trans (Hp.eraseA (σ := [ownR [] (intE .i64) 3 v36 ([(-1), 200] : List Int), ownR [] (intE .i64) 3 v12 ([12, 30] : List Int)]) 0))) r34 hf40 hz44).mono ?_
 rintro _ w45 ⟨v47, rfl, hf48, r49, e46⟩
 refine ⟨_, rfl, ?_⟩
 have hI50 := hI41.addOwn e46 hf48
 refine s_mv rfl rfl ?_
 refine s_xt rfl rfl rfl ?_
 refine s_xt rfl rfl rfl ?_
 refine s_as rfl rfl ?_
 refine s_as rfl rfl ?_
 refine Reg.nil ?_
 refine cw_seq (cw_regF ?_)
 obtain ⟨z51, hz52, h⟩ := bnd h
 refine s_call rfl Try.call30 rfl ?_
 refine (C_law06_model hI50.mlt hz52).mono ?_
 rintro _ w53 ⟨v56, v58, rfl, r55, hf57, hf59, r60, e54⟩
 refine ⟨_, rfl, ?_⟩
 have hI61 := hI50.ext e54
 obtain ⟨z62, hz63, h⟩ := bnd h
 refine s_call rfl Try.call29 rfl ?_
 refine (C_law06_span hI61.mlt (by decide) (by decide) hz63).mono ?_
 rintro _ w64 ⟨rfl, r66, r67, e65⟩
 refine ⟨_, rfl, ?_⟩
 have hI68 := hI61.ext e65
 obtain ⟨z69, hz70, h⟩ := bnd h
 refine s_call rfl Try.call29 rfl ?_
 refine (C_law06_span hI68.mlt (by decide) (by decide) hz70).mono ?_
 rintro _ w71 ⟨rfl, r73, r74, e72⟩
 refine ⟨_, rfl, ?_⟩
 have hI75 := hI68.ext e72
 refine y_bs (E := SpanE) (xs := [z62, z69]) sl43 hI75 rfl rfl (Cls.cons rfl (Cls.cons rfl Cls.nil)) (Chs.cons ((SpanE_R (x := z62)).2 ⟨rfl, r66, r67⟩) (Chs.cons ((SpanE_R (x := z69)).2 ⟨rfl, r73, r74⟩) Chs.nil)) rfl rfl ?_
 intro v76 w77 hI78 x79
 obtain ⟨⟨z80, z81⟩, hz82, h⟩ := bnd h
 refine s_call rfl Try.call22 rfl ?_
 refine (C_score_Between (hI78.sel [1, 2] rfl).mlt r55 ((hf57.adv ((Adv.of_ext e65).trans ((Adv.of_ext e72).trans x79))).adv (Hp.selA (σ := [ownR [] SpanE 45 v76 ([z62, z69] : List Span), ownR [] (intE .i64) 3 v47 z42, ownR [] (intE .i64) 3 v12 ([12, 30] : List Int)]) [1, 2])) ((hf59.adv ((Adv.of_ext e65).trans ((Adv.of_ext e72).trans x79))).adv (Hp.selA (σ := [ownR [] SpanE 45 v76 ([z62, z69] : List Span), ownR [] (intE .i64) 3 v47 z42, ownR [] (intE .i64) 3 v12 ([12, 30] : List Int)]) [1, 2])) r60 (hI78.lendRd [1, 2] 0 rfl rfl) hz82).mono ?_
 rintro _ w83 ⟨rfl, r85, r86, r87, e84⟩
 refine ⟨_, rfl, ?_⟩
 have hI88 := hI78.ext e84
 refine s_mv rfl rfl ?_
 refine s_xt rfl rfl rfl ?_
 refine s_xt rfl rfl rfl ?_
 refine y_al hI88 Try.zeroValue45 rfl rfl ?_
 intro b89 w90 hI91 x92
 refine y_st 0 hI91 rfl rfl rfl rfl Try.sizeOf45 rfl rfl (one1 rfl (one1 rfl one0)) ?_
 intro w93 hI94 x95
 have hC97 := hI94.freezeRow 0 rfl
 have hI96 := hI94.erase 0
 refine s_as rfl rfl ?_
 refine Reg.nil ?_
 refine cw_seq (cw_regF ?_)
 obtain ⟨z98, hz99, h⟩ := bnd h
 refine s_call rfl Try.call30 rfl ?_
 refine (C_law06_model hI96.mlt hz99).mono ?_
 rintro _ w100 ⟨v103, v105, rfl, r102, hf104, hf106, r107, e101⟩
 refine ⟨_, rfl, ?_⟩
 have hI108 := hI96.ext e101
 refine y_bs (E := (intE .i64)) (xs := [5, 200]) sl26 hI108 rfl rfl (Cls.cons rfl (Cls.cons rfl Cls.nil)) (Chs.cons ⟨rfl, (by decide)⟩ (Chs.cons ⟨rfl, (by decide)⟩ Chs.nil)) rfl rfl ?_
 intro v109 w110 hI111 x112
 have hf113 := hI111.freeze 0 rfl
 have hI114 := hI111.erase 0
 obtain ⟨⟨z115, z116, z117⟩, hz118, h⟩ := bnd h
 refine s_call rfl Try.call28 rfl ?_
 refine (C_score_Reasons hI114.mlt r102 (hf104.adv (x112.trans (Hp.eraseA (σ := [ownR [] (intE .i64) 3 v109 ([5, 200] : List Int), ownR [] SpanE 45 v76 ([z62, z69] : List Span), ownR [] (intE .i64) 3 v47 z42, ownR [] (intE .i64) 3 v12 ([12, 30] : List Int)]) 0))) (hf106.adv (x112.trans (Hp.eraseA (σ := [ownR [] (intE .i64) 3 v109 ([5, 200] : List Int), ownR [] SpanE 45 v76 ([z62, z69] : List Span), ownR [] (intE .i64) 3 v47 z42, ownR [] (intE .i64) 3 v12 ([12, 30] : List Int)]) 0))) r107 hf113 hz118).mono ?_
 rintro _ w119 ⟨v121, v123, rfl, hf122, hf124, r125, e120⟩
 refine ⟨_, rfl, ?_⟩
 have hI126 := hI114.ext e120
 refine s_mv rfl rfl ?_
 refine s_xt rfl rfl rfl ?_
 refine s_xt rfl rfl rfl ?_
 refine s_xt rfl rfl rfl ?_
 refine s_as rfl rfl ?_
 refine s_as rfl rfl ?_
 refine s_as rfl rfl ?_
 refine Reg.nil ?_
 obtain ⟨j127, h128, h⟩ := bnd h
 refine cw_sub (L := [(1, _), (2, _), (3, _), (4, _), (5, _), (6, _), (7, _), (8, _), (9, _), (10, _)]) (Sub.cons rfl (Sub.cons rfl (Sub.cons rfl (Sub.cons rfl (Sub.cons rfl (Sub.cons rfl (Sub.cons rfl (Sub.cons rfl (Sub.cons rfl (Sub.cons rfl (Sub.nil _))))))))))) ?_
 refine cw_seqD 10 (ι := Bool) (fun x129 => [(0, Value.bool x129)]) (fun x129 => fun w130 => Hp w [] M [ownR [] SpanE 45 v76 ([z62, z69] : List Span), ownR [] (intE .i64) 3 v47 z42, ownR [] (intE .i64) 3 v12 ([12, 30] : List Int)] w130 ∧ Adv (mm [ownR [] SpanE 45 v76 ([z62, z69] : List Span), ownR [] (intE .i64) 3 v47 z42, ownR [] (intE .i64) 3 v12 ([12, 30] : List Int)] M) (mm [ownR [] SpanE 45 v76 ([z62, z69] : List Span), ownR [] (intE .i64) 3 v47 z42, ownR [] (intE .i64) 3 v12 ([12, 30] : List Int)] M) w119 w130 ∧ x129 = j127) ?_ ?_
 ·skip
  refine cw_regD [0, 1, 2, 3, 4, 5, 6, 7, 8, 9, 10, 11, 12, 13, 14, 15, 16, 17, 18, 19, 20, 21, 22, 23, 24, 25, 26, 27, 28, 29, 30, 31, 32, 33, 34, 35, 36, 37, 38, 39, 40, 41] [] fol (by kernel_rfl) rfl rfl ?_
  refine s_mv rfl rfl ?_
  refine s_eql rfl rfl rfl ?_
  refine s_mv rfl rfl ?_
  refine Reg.gsplit (t := 41) rfl (fun hg133 => ?_) (fun hg133 => ?_)
  ·replace h128 := cdT hg133 h128
   refine Reg.take rfl rfl ?_
   refine s_mv rfl rfl ?_
   refine Reg.take rfl rfl ?_
   refine s_eql rfl rfl rfl ?_
   refine s_pkT rfl rfl rfl ?_
   refine s_mv rfl rfl ?_
   refine Reg.gsplit (t := 45) rfl (fun hg134 => ?_) (fun hg134 => ?_)
   ·replace h128 := cdT hg134 h128
    refine Reg.take rfl rfl ?_
    refine s_mv rfl rfl ?_
    refine s_pkT rfl rfl rfl ?_
    refine s_mv rfl rfl ?_
    refine Reg.gsplit (t := 48) rfl (fun hg135 => ?_) (fun hg135 => ?_)
    ·replace h128 := cdT hg135 h128
     refine Reg.take rfl rfl ?_
     refine s_mv rfl rfl ?_
     refine Reg.take rfl rfl ?_
     refine s_eql rfl rfl rfl ?_
     refine s_pkT rfl rfl rfl ?_
     refine s_mv rfl rfl ?_
     refine Reg.gsplit (t := 52) rfl (fun hg136 => ?_) (fun hg136 => ?_)
     ·replace h128 := cdT hg136 h128
      refine Reg.take rfl rfl ?_
      refine s_mv rfl rfl ?_
      refine Reg.take rfl rfl ?_
      refine Reg.rel (.p fun v w' => RdS (intE .i64) (mm [ownR [] SpanE 45 v76 ([z62, z69] : List Span), ownR [] (intE .i64) 3 v47 z42, ownR [] (intE .i64) 3 v12 ([12, 30] : List Int)] M) w' v ([15, (-40)] : List Int)) [] rfl rfl rfl RSub.nil rfl (nodupB_spec rfl) ?_ (fun v w1 w2 e h => h.adv (Adv.of_ext e)) ?_
      ·intro w137 e138; simp only [relOut]; refine s_bs (E := (intE .i64)) (M := mm [ownR [] SpanE 45 v76 ([z62, z69] : List Span), ownR [] (intE .i64) 3 v47 z42, ownR [] (intE .i64) 3 v12 ([12, 30] : List Int)] M) (Bb := 0) (xs := ([15, (-40)] : List Int)) sl26 rfl rfl (Cls.cons rfl (Cls.cons rfl Cls.nil)) (Chs.cons ⟨rfl, (by decide)⟩ (Chs.cons ⟨rfl, (by decide)⟩ Chs.nil)) (hI126.mlt.ext e138) (Nat.zero_le _) rfl rfl ?_; intro a139 w140 x141 _ h142 _; exact Reg.nil ⟨rfl, x141, _, rfl, h142, trivial⟩
      refine Reg.take rfl rfl ?_
      obtain ⟨z146, hz146, h128⟩ := bnd h128
      refine Reg.relC (.bool z146) [(54, _)] rfl rfl (RSub.cons rfl rfl RSub.nil) rfl (nodupB_spec rfl) ?_ ?_
      ·intro w147 e148; simp only [relOut]; intro u143 k144 s145; refine s_call rfl Try.call20 rfl ?_; refine (C_ref01_SameInts ((hI126.sel [0, 2] rfl).mlt.ext e148) ((hI126.lendRd [0, 2] 1 rfl rfl).adv (Adv.of_ext e148)) (k144.adv (Hp.selA (σ := [ownR [] SpanE 45 v76 ([z62, z69] : List Span), ownR [] (intE .i64) 3 v47 z42, ownR [] (intE .i64) 3 v12 ([12, 30] : List Int)]) [0, 2])) hz146).mono ?_; rintro _ w149 ⟨rfl, x150⟩; refine ⟨_, rfl, ?_⟩; exact Reg.nil ⟨rfl, x150, _, rfl, rfl, trivial⟩
      refine s_pkT rfl rfl rfl ?_
      refine s_mv rfl rfl ?_
      refine Reg.gsplit (t := 57) rfl (fun hg152 => ?_) (fun hg152 => ?_)
      ·replace h128 := cdT hg152 h128
       refine Reg.take rfl rfl ?_
       refine s_mv rfl rfl ?_
       refine Reg.take rfl rfl ?_
       refine s_eql rfl rfl rfl ?_
       refine s_pkT rfl rfl rfl ?_
       refine s_mv rfl rfl ?_
       refine Reg.gsplit (t := 61) rfl (fun hg153 => ?_) (fun hg153 => ?_)
       ·replace h128 := cdT hg153 h128
        refine Reg.take rfl rfl ?_
        refine s_lda rfl (hC97.adv ((Adv.of_ext e101).trans (x112.trans ((Hp.eraseA (σ := [ownR [] (intE .i64) 3 v109 ([5, 200] : List Int), ownR [] SpanE 45 v76 ([z62, z69] : List Span), ownR [] (intE .i64) 3 v47 z42, ownR [] (intE .i64) 3 v12 ([12, 30] : List Int)]) 0).trans (Adv.of_ext e120))))).cells Try.isAgg45 rfl Try.sizeOf45 rfl ?_
        refine Reg.take rfl rfl ?_
        obtain ⟨z154, hz155, h128⟩ := bnd h128
        refine s_callq rfl rfl Try.call29 rfl (fun w156 e157 => (C_law06_span (hI126.mlt.ext e157) (by decide) (by decide) hz155).mono (fun _ _ hq => ⟨hq.1, hq.2.2.2⟩)) ?_
        have r158 := Calls.fact (C_law06_span hI126.mlt (by decide) (by decide) hz155) (fun _ _ hq => hq.2.1)
        have r159 := Calls.fact (C_law06_span hI126.mlt (by decide) (by decide) hz155) (fun _ _ hq => hq.2.2.1)
        refine Reg.take rfl rfl ?_
        refine s_eqS (Span_eq (Span.mk z80.lo z80.hi) z154) Try.eqGuardType45 rfl rfl rfl ?_
        refine s_pkT rfl rfl rfl ?_
        refine s_mv rfl rfl ?_
        refine Reg.gsplit (t := 66) rfl (fun hg160 => ?_) (fun hg160 => ?_)
        ·replace h128 := cdT hg160 h128
         refine Reg.take rfl rfl ?_
         refine s_mv rfl rfl ?_
         refine Reg.take rfl rfl ?_
         refine s_eql rfl rfl rfl ?_
         refine s_pkT rfl rfl rfl ?_
         refine s_mv rfl rfl ?_
         refine Reg.gsplit (t := 70) rfl (fun hg161 => ?_) (fun hg161 => ?_)
         ·replace h128 := cdT hg161 h128
          refine Reg.take rfl rfl ?_
          refine s_mv rfl rfl ?_
          refine Reg.take rfl rfl ?_
          refine Reg.rel (.p fun v w' => RdS (intE .i64) (mm [ownR [] SpanE 45 v76 ([z62, z69] : List Span), ownR [] (intE .i64) 3 v47 z42, ownR [] (intE .i64) 3 v12 ([12, 30] : List Int)] M) w' v ([0, 1] : List Int)) [] rfl rfl rfl RSub.nil rfl (nodupB_spec rfl) ?_ (fun v w1 w2 e h => h.adv (Adv.of_ext e)) ?_
          ·intro w162 e163; simp only [relOut]; refine s_bs (E := (intE .i64)) (M := mm [ownR [] SpanE 45 v76 ([z62, z69] : List Span), ownR [] (intE .i64) 3 v47 z42, ownR [] (intE .i64) 3 v12 ([12, 30] : List Int)] M) (Bb := 0) (xs := ([0, 1] : List Int)) sl26 rfl rfl (Cls.cons rfl (Cls.cons rfl Cls.nil)) (Chs.cons ⟨rfl, (by decide)⟩ (Chs.cons ⟨rfl, (by decide)⟩ Chs.nil)) (hI126.mlt.ext e163) (Nat.zero_le _) rfl rfl ?_; intro a164 w165 x166 _ h167 _; exact Reg.nil ⟨rfl, x166, _, rfl, h167, trivial⟩
          refine Reg.take rfl rfl ?_
          obtain ⟨z171, hz171, h128⟩ := bnd h128
          refine Reg.relC (.bool z171) [(72, _)] rfl rfl (RSub.cons rfl rfl RSub.nil) rfl (nodupB_spec rfl) ?_ ?_
          ·intro w172 e173; simp only [relOut]; intro u168 k169 s170; refine s_call rfl Try.call20 rfl ?_; refine (C_ref01_SameInts (hI126.mlt.ext e173) (hf122.adv (Adv.of_ext e173)) k169 hz171).mono ?_; rintro _ w174 ⟨rfl, x175⟩; refine ⟨_, rfl, ?_⟩; exact Reg.nil ⟨rfl, x175, _, rfl, rfl, trivial⟩
          refine s_pkT rfl rfl rfl ?_
          refine s_mv rfl rfl ?_
          refine Reg.gsplit (t := 75) rfl (fun hg177 => ?_) (fun hg177 => ?_)
          ·replace h128 := cdT hg177 h128
           refine Reg.take rfl rfl ?_
           refine s_mv rfl rfl ?_
           refine Reg.take rfl rfl ?_
           refine Reg.rel (.p fun v w' => RdS (intE .i64) (mm [ownR [] SpanE 45 v76 ([z62, z69] : List Span), ownR [] (intE .i64) 3 v47 z42, ownR [] (intE .i64) 3 v12 ([12, 30] : List Int)] M) w' v ([10, 0] : List Int)) [] rfl rfl rfl RSub.nil rfl (nodupB_spec rfl) ?_ (fun v w1 w2 e h => h.adv (Adv.of_ext e)) ?_
           ·intro w178 e179; simp only [relOut]; refine s_bs (E := (intE .i64)) (M := mm [ownR [] SpanE 45 v76 ([z62, z69] : List Span), ownR [] (intE .i64) 3 v47 z42, ownR [] (intE .i64) 3 v12 ([12, 30] : List Int)] M) (Bb := 0) (xs := ([10, 0] : List Int)) sl26 rfl rfl (Cls.cons rfl (Cls.cons rfl Cls.nil)) (Chs.cons ⟨rfl, (by decide)⟩ (Chs.cons ⟨rfl, (by decide)⟩ Chs.nil)) (hI126.mlt.ext e179) (Nat.zero_le _) rfl rfl ?_; intro a180 w181 x182 _ h183 _; exact Reg.nil ⟨rfl, x182, _, rfl, h183, trivial⟩
           refine Reg.take rfl rfl ?_
           obtain ⟨z187, hz187, h128⟩ := bnd h128
           refine Reg.relC (.bool z187) [(77, _)] rfl rfl (RSub.cons rfl rfl RSub.nil) rfl (nodupB_spec rfl) ?_ ?_
           ·intro w188 e189; simp only [relOut]; intro u184 k185 s186; refine s_call rfl Try.call20 rfl ?_; refine (C_ref01_SameInts (hI126.mlt.ext e189) (hf124.adv (Adv.of_ext e189)) k185 hz187).mono ?_; rintro _ w190 ⟨rfl, x191⟩; refine ⟨_, rfl, ?_⟩; exact Reg.nil ⟨rfl, x191, _, rfl, rfl, trivial⟩
           refine s_pkT rfl rfl rfl ?_
           refine s_as rfl rfl ?_
           refine Reg.nilF [] RSub.nil (nodupB_spec rfl) ?_
           intro w193 e194
           refine Reg.nil ?_
           have hI195 := hI126.ext e194
           obtain rfl := Option.some.inj h128
           refine ⟨rfl, z187, ⟨hI195, (Adv.of_ext e194), rfl⟩, Sub.cons rfl (Sub.nil _)⟩
          ·replace h128 := cdF hg177 h128
           refine Reg.pass rfl rfl rfl rfl ?_
           refine Reg.pass rfl rfl rfl rfl ?_
           refine Reg.pass rfl rfl rfl rfl ?_
           refine s_pkF rfl rfl rfl ?_
           refine s_as rfl rfl ?_
           refine Reg.nilF [] RSub.nil (nodupB_spec rfl) ?_
           intro w196 e197
           refine Reg.nil ?_
           have hI198 := hI126.ext e197
           obtain rfl := Option.some.inj h128
           refine ⟨rfl, false, ⟨hI198, (Adv.of_ext e197), rfl⟩, Sub.cons rfl (Sub.nil _)⟩
         ·replace h128 := cdF hg161 h128
          refine Reg.pass rfl rfl rfl rfl ?_
          refine Reg.pass rfl rfl rfl rfl ?_
          refine Reg.pass rfl rfl rfl rfl ?_
          refine s_pkF rfl rfl rfl ?_
          refine s_mv rfl rfl ?_
          refine Reg.pass rfl rfl rfl rfl ?_
          refine Reg.pass rfl rfl rfl rfl ?_
          refine Reg.pass rfl rfl rfl rfl ?_
          refine s_pkF rfl rfl rfl ?_
          refine s_as rfl rfl ?_
          refine Reg.nilF [] RSub.nil (nodupB_spec rfl) ?_
          intro w199 e200
          refine Reg.nil ?_
          have hI201 := hI126.ext e200
          obtain rfl := Option.some.inj h128
          refine ⟨rfl, false, ⟨hI201, (Adv.of_ext e200), rfl⟩, Sub.cons rfl (Sub.nil _)⟩
        ·replace h128 := cdF hg160 h128
         refine Reg.pass rfl rfl rfl rfl ?_
         refine Reg.pass rfl rfl rfl rfl ?_
         refine s_pkF rfl rfl rfl ?_
         refine s_mv rfl rfl ?_
         refine Reg.pass rfl rfl rfl rfl ?_
         refine Reg.pass rfl rfl rfl rfl ?_
         refine Reg.pass rfl rfl rfl rfl ?_
         refine s_pkF rfl rfl rfl ?_
         refine s_mv rfl rfl ?_
         refine Reg.pass rfl rfl rfl rfl ?_
         refine Reg.pass rfl rfl rfl rfl ?_
         refine Reg.pass rfl rfl rfl rfl ?_
         refine s_pkF rfl rfl rfl ?_
         refine s_as rfl rfl ?_
         refine Reg.nilF [] RSub.nil (nodupB_spec rfl) ?_
         intro w202 e203
         refine Reg.nil ?_
         have hI204 := hI126.ext e203
         obtain rfl := Option.some.inj h128
         refine ⟨rfl, false, ⟨hI204, (Adv.of_ext e203), rfl⟩, Sub.cons rfl (Sub.nil _)⟩
       ·replace h128 := cdF hg153 h128
        refine Reg.pass rfl rfl rfl rfl ?_
        refine Reg.pass rfl rfl rfl rfl ?_
        refine Reg.pass rfl rfl rfl rfl ?_
        refine s_pkF rfl rfl rfl ?_
        refine s_mv rfl rfl ?_
        refine Reg.pass rfl rfl rfl rfl ?_
        refine Reg.pass rfl rfl rfl rfl ?_
        refine s_pkF rfl rfl rfl ?_
        refine s_mv rfl rfl ?_
        refine Reg.pass rfl rfl rfl rfl ?_
        refine Reg.pass rfl rfl rfl rfl ?_
        refine Reg.pass rfl rfl rfl rfl ?_
        refine s_pkF rfl rfl rfl ?_
        refine s_mv rfl rfl ?_
        refine Reg.pass rfl rfl rfl rfl ?_
        refine Reg.pass rfl rfl rfl rfl ?_
        refine Reg.pass rfl rfl rfl rfl ?_
        refine s_pkF rfl rfl rfl ?_
        refine s_as rfl rfl ?_
        refine Reg.nilF [] RSub.nil (nodupB_spec rfl) ?_
        intro w205 e206
        refine Reg.nil ?_
        have hI207 := hI126.ext e206
        obtain rfl := Option.some.inj h128
        refine ⟨rfl, false, ⟨hI207, (Adv.of_ext e206), rfl⟩, Sub.cons rfl (Sub.nil _)⟩
      ·replace h128 := cdF hg152 h128
       refine Reg.pass rfl rfl rfl rfl ?_
       refine Reg.pass rfl rfl rfl rfl ?_
       refine s_pkF rfl rfl rfl ?_
       refine s_mv rfl rfl ?_
       refine Reg.pass rfl rfl rfl rfl ?_
       refine Reg.pass rfl rfl rfl rfl ?_
       refine Reg.pass rfl rfl rfl rfl ?_
       refine s_pkF rfl rfl rfl ?_
       refine s_mv rfl rfl ?_
       refine Reg.pass rfl rfl rfl rfl ?_
       refine Reg.pass rfl rfl rfl rfl ?_
       refine s_pkF rfl rfl rfl ?_
       refine s_mv rfl rfl ?_
       refine Reg.pass rfl rfl rfl rfl ?_
       refine Reg.pass rfl rfl rfl rfl ?_
       refine Reg.pass rfl rfl rfl rfl ?_
       refine s_pkF rfl rfl rfl ?_
       refine s_mv rfl rfl ?_
       refine Reg.pass rfl rfl rfl rfl ?_
       refine Reg.pass rfl rfl rfl rfl ?_
       refine Reg.pass rfl rfl rfl rfl ?_
       refine s_pkF rfl rfl rfl ?_
       refine s_as rfl rfl ?_
       refine Reg.nilF [] RSub.nil (nodupB_spec rfl) ?_
       intro w208 e209
       refine Reg.nil ?_
       have hI210 := hI126.ext e209
       obtain rfl := Option.some.inj h128
       refine ⟨rfl, false, ⟨hI210, (Adv.of_ext e209), rfl⟩, Sub.cons rfl (Sub.nil _)⟩
     ·replace h128 := cdF hg136 h128
      refine Reg.pass rfl rfl rfl rfl ?_
      refine Reg.pass rfl rfl rfl rfl ?_
      refine Reg.pass rfl rfl rfl rfl ?_
      refine s_pkF rfl rfl rfl ?_
      refine s_mv rfl rfl ?_
      refine Reg.pass rfl rfl rfl rfl ?_
      refine Reg.pass rfl rfl rfl rfl ?_
      refine s_pkF rfl rfl rfl ?_
      refine s_mv rfl rfl ?_
      refine Reg.pass rfl rfl rfl rfl ?_
      refine Reg.pass rfl rfl rfl rfl ?_
      refine Reg.pass rfl rfl rfl rfl ?_
      refine s_pkF rfl rfl rfl ?_
      refine s_mv rfl rfl ?_
      refine Reg.pass rfl rfl rfl rfl ?_
      refine Reg.pass rfl rfl rfl rfl ?_
      refine s_pkF rfl rfl rfl ?_
      refine s_mv rfl rfl ?_
      refine Reg.pass rfl rfl rfl rfl ?_
      refine Reg.pass rfl rfl rfl rfl ?_
      refine Reg.pass rfl rfl rfl rfl ?_
      refine s_pkF rfl rfl rfl ?_
      refine s_mv rfl rfl ?_
      refine Reg.pass rfl rfl rfl rfl ?_
      refine Reg.pass rfl rfl rfl rfl ?_
      refine Reg.pass rfl rfl rfl rfl ?_
      refine s_pkF rfl rfl rfl ?_
      refine s_as rfl rfl ?_
      refine Reg.nilF [] RSub.nil (nodupB_spec rfl) ?_
      intro w211 e212
      refine Reg.nil ?_
      have hI213 := hI126.ext e212
      obtain rfl := Option.some.inj h128
      refine ⟨rfl, false, ⟨hI213, (Adv.of_ext e212), rfl⟩, Sub.cons rfl (Sub.nil _)⟩
    ·replace h128 := cdF hg135 h128
     refine Reg.pass rfl rfl rfl rfl ?_
     refine Reg.pass rfl rfl rfl rfl ?_
     refine s_pkF rfl rfl rfl ?_
     refine s_mv rfl rfl ?_
     refine Reg.pass rfl rfl rfl rfl ?_
     refine Reg.pass rfl rfl rfl rfl ?_
     refine Reg.pass rfl rfl rfl rfl ?_
     refine s_pkF rfl rfl rfl ?_
     refine s_mv rfl rfl ?_
     refine Reg.pass rfl rfl rfl rfl ?_
     refine Reg.pass rfl rfl rfl rfl ?_
     refine s_pkF rfl rfl rfl ?_
     refine s_mv rfl rfl ?_
     refine Reg.pass rfl rfl rfl rfl ?_
     refine Reg.pass rfl rfl rfl rfl ?_
     refine Reg.pass rfl rfl rfl rfl ?_
     refine s_pkF rfl rfl rfl ?_
     refine s_mv rfl rfl ?_
     refine Reg.pass rfl rfl rfl rfl ?_
     refine Reg.pass rfl rfl rfl rfl ?_
     refine s_pkF rfl rfl rfl ?_
     refine s_mv rfl rfl ?_
     refine Reg.pass rfl rfl rfl rfl ?_
     refine Reg.pass rfl rfl rfl rfl ?_
     refine Reg.pass rfl rfl rfl rfl ?_
     refine s_pkF rfl rfl rfl ?_
     refine s_mv rfl rfl ?_
     refine Reg.pass rfl rfl rfl rfl ?_
     refine Reg.pass rfl rfl rfl rfl ?_
     refine Reg.pass rfl rfl rfl rfl ?_
     refine s_pkF rfl rfl rfl ?_
     refine s_as rfl rfl ?_
     refine Reg.nilF [] RSub.nil (nodupB_spec rfl) ?_
     intro w214 e215
     refine Reg.nil ?_
     have hI216 := hI126.ext e215
     obtain rfl := Option.some.inj h128
     refine ⟨rfl, false, ⟨hI216, (Adv.of_ext e215), rfl⟩, Sub.cons rfl (Sub.nil _)⟩
   ·replace h128 := cdF hg134 h128
    refine Reg.pass rfl rfl rfl rfl ?_
    refine s_pkF rfl rfl rfl ?_
    refine s_mv rfl rfl ?_
    refine Reg.pass rfl rfl rfl rfl ?_
    refine Reg.pass rfl rfl rfl rfl ?_
    refine s_pkF rfl rfl rfl ?_
    refine s_mv rfl rfl ?_
    refine Reg.pass rfl rfl rfl rfl ?_
    refine Reg.pass rfl rfl rfl rfl ?_
    refine Reg.pass rfl rfl rfl rfl ?_
    refine s_pkF rfl rfl rfl ?_
    refine s_mv rfl rfl ?_
    refine Reg.pass rfl rfl rfl rfl ?_
    refine Reg.pass rfl rfl rfl rfl ?_
    refine s_pkF rfl rfl rfl ?_
    refine s_mv rfl rfl ?_
    refine Reg.pass rfl rfl rfl rfl ?_
    refine Reg.pass rfl rfl rfl rfl ?_
    refine Reg.pass rfl rfl rfl rfl ?_
    refine s_pkF rfl rfl rfl ?_
    refine s_mv rfl rfl ?_
    refine Reg.pass rfl rfl rfl rfl ?_
    refine Reg.pass rfl rfl rfl rfl ?_
    refine s_pkF rfl rfl rfl ?_
    refine s_mv rfl rfl ?_
    refine Reg.pass rfl rfl rfl rfl ?_
    refine Reg.pass rfl rfl rfl rfl ?_
    refine Reg.pass rfl rfl rfl rfl ?_
    refine s_pkF rfl rfl rfl ?_
    refine s_mv rfl rfl ?_
    refine Reg.pass rfl rfl rfl rfl ?_
    refine Reg.pass rfl rfl rfl rfl ?_
    refine Reg.pass rfl rfl rfl rfl ?_
    refine s_pkF rfl rfl rfl ?_
    refine s_as rfl rfl ?_
    refine Reg.nilF [] RSub.nil (nodupB_spec rfl) ?_
    intro w217 e218
    refine Reg.nil ?_
    have hI219 := hI126.ext e218
    obtain rfl := Option.some.inj h128
    refine ⟨rfl, false, ⟨hI219, (Adv.of_ext e218), rfl⟩, Sub.cons rfl (Sub.nil _)⟩
  ·replace h128 := cdF hg133 h128
   refine Reg.pass rfl rfl rfl rfl ?_
   refine Reg.pass rfl rfl rfl rfl ?_
   refine s_pkF rfl rfl rfl ?_
   refine s_mv rfl rfl ?_
   refine Reg.pass rfl rfl rfl rfl ?_
   refine s_pkF rfl rfl rfl ?_
   refine s_mv rfl rfl ?_
   refine Reg.pass rfl rfl rfl rfl ?_
   refine Reg.pass rfl rfl rfl rfl ?_
   refine s_pkF rfl rfl rfl ?_
   refine s_mv rfl rfl ?_
   refine Reg.pass rfl rfl rfl rfl ?_
   refine Reg.pass rfl rfl rfl rfl ?_
   refine Reg.pass rfl rfl rfl rfl ?_
   refine s_pkF rfl rfl rfl ?_
   refine s_mv rfl rfl ?_
   refine Reg.pass rfl rfl rfl rfl ?_
   refine Reg.pass rfl rfl rfl rfl ?_
   refine s_pkF rfl rfl rfl ?_
   refine s_mv rfl rfl ?_
   refine Reg.pass rfl rfl rfl rfl ?_
   refine Reg.pass rfl rfl rfl rfl ?_
   refine Reg.pass rfl rfl rfl rfl ?_
   refine s_pkF rfl rfl rfl ?_
   refine s_mv rfl rfl ?_
   refine Reg.pass rfl rfl rfl rfl ?_
   refine Reg.pass rfl rfl rfl rfl ?_
   refine s_pkF rfl rfl rfl ?_
   refine s_mv rfl rfl ?_
   refine Reg.pass rfl rfl rfl rfl ?_
   refine Reg.pass rfl rfl rfl rfl ?_
   refine Reg.pass rfl rfl rfl rfl ?_
   refine s_pkF rfl rfl rfl ?_
   refine s_mv rfl rfl ?_
   refine Reg.pass rfl rfl rfl rfl ?_
   refine Reg.pass rfl rfl rfl rfl ?_
   refine Reg.pass rfl rfl rfl rfl ?_
   refine s_pkF rfl rfl rfl ?_
   refine s_as rfl rfl ?_
   refine Reg.nilF [] RSub.nil (nodupB_spec rfl) ?_
   intro w220 e221
   refine Reg.nil ?_
   have hI222 := hI126.ext e221
   obtain rfl := Option.some.inj h128
   refine ⟨rfl, false, ⟨hI222, (Adv.of_ext e221), rfl⟩, Sub.cons rfl (Sub.nil _)⟩
 ·skip
  rintro x129 w130 ⟨hI131, hA132, rfl⟩
  refine cw_ret ?_
  obtain rfl := Option.some.inj h
  refine fin1 Try.results24 rfl ?_
  exact ⟨rfl, hI131.kp⟩
end Go.Proofs.Ytecmlmngcnionaa
namespace Go.Proofs.Ytecmlmngcnionaa
open Go Go.Sx
namespace S
def mdl : Model := Model.mk 2 [Card.mk 1000 20 [Scale.mk [10, 20] [0, 15, 30] 5, Scale.mk [100] [25, -10] 0]] [Tree.mk 500 [Node.mk 1 50 1 2 0, Node.mk (-1) 0 0 0 8, Node.mk (-1) 0 0 0 (-40)]] 50
theorem p_model : P.law06_model = some mdl := rfl
theorem mdl_small : Small mdl := small_of (by decide +kernel)
theorem p_span (a b : Int) : P.law06_span a b = some (Span.mk a b) := rfl
theorem alive1 : P.score_Score mdl [12, 30] = some (64000, true, 0) := by
  rw [p_SScore mdl _ mdl_small (by decide)]
  decide +kernel
theorem alive2 : P.score_Points mdl [-1, 200] = some ([15, -40], 0) := by
  rw [p_SPoints mdl _ mdl_small (by decide)]
  decide +kernel
theorem alive3 : P.score_Between mdl [Span.mk 0 15, Span.mk 40 60] = some (Span.mk 25000 64000, 0) := by
  unfold P.score_Between
  rw [if_pos ⟨mdl_small, by decide⟩]
  decide +kernel
theorem p_SReasons (m : Model) (x : List Int) (hs : Small m) (hx : x.length ≤ 5) : P.score_Reasons m x = some (reasonsS m x) := by
  unfold P.score_Reasons
  rw [if_pos ⟨hs, by omega, p_sets _ hx⟩]
theorem alive4 : P.score_Reasons mdl [5, 200] = some ([0, 1], [10, 0], 0) := by
  rw [p_SReasons mdl _ mdl_small (by decide)]
  unfold reasonsS
  rw [show ([5, 200] : List Int).length = 2 from rfl, sets2]
  decide +kernel
theorem p_alive : P.law06_alive = some true := by
  unfold P.law06_alive
  rw [p_model, bindS, alive1, bindS]
  dsimp only
  rw [bindS, alive2, bindS]
  dsimp only
  rw [bindS, p_span, bindS, p_span, bindS, alive3, bindS]
  dsimp only
  rw [bindS, alive4, bindS]
  dsimp only
  rw [p_same _ _ (by decide), p_same _ _ (by decide), p_same _ _ (by decide)]
  rfl
end S
end Go.Proofs.Ytecmlmngcnionaa
namespace Go.Proofs.Ytecmlmngcnionaa
open Go Go.Sx
namespace S
/-- Two values stand alike among the cuts of a trait. -/
def Alike (m : Model) (t : Nat) (a b : Int) : Prop := (a = -1 ↔ b = -1) ∧ ∀ c, CutOf m t c → (c ≤ a ↔ c ≤ b)
theorem Alike.refl (m : Model) (t : Nat) (a : Int) : Alike m t a a := ⟨Iff.rfl, fun _ _ => Iff.rfl⟩
theorem build {P : Nat → Int → Prop} : ∀ (n : Nat), (∀ j < n, ∃ v, P j v) → ∃ l : List Int, l.length = n ∧ ∀ (j : Nat) (a : Int), l[j]? = some a → P j a
  | 0, _ => ⟨[], rfl, fun j a h => by simp at h⟩
  | n + 1, h => by
    obtain ⟨l, h1, h2⟩ := build (P := P) n fun j hj => h j (by omega)
    obtain ⟨v, hv⟩ := h n (by omega)
    refine ⟨l ++ [v], by simp [h1], fun j a ha => ?_⟩
    rw [List.getElem?_append] at ha
    split at ha
    · exact h2 j a ha
    · rename_i hj
      have hlt := get_lt ha
      have : j - l.length = 0 := by simp at hlt; omega
      rw [this] at ha
      have : v = a := by simpa using ha
      have : j = n := by omega
      subst this; simp_all
/-- Values within spans. -/
def InSpans (x : List Span) (y : List Int) : Prop := y.length = x.length ∧ ∀ (j : Nat) (a : Int) (s : Span), y[j]? = some a → x[j]? = some s → s.lo ≤ a ∧ a ≤ s.hi
theorem okSpan_iff {s : Span} : okSpan s = true ↔ 0 ≤ s.lo ∧ s.lo ≤ s.hi ∧ s.hi ≤ 1000000 := by
  unfold okSpan
  rw [decide_eq_true_eq]; omega
section
variable {m : Model} {x : List Span}
theorem in_get (hall : x.all okSpan = true) {j : Nat} {s : Span} (h : x[j]? = some s) : 0 ≤ s.lo ∧ s.lo ≤ s.hi ∧ s.hi ≤ 1000000 := okSpan_iff.1 (List.all_eq_true.1 hall s (List.mem_of_getElem? h))
theorem InSpans.valuesOk {y : List Int} (hall : x.all okSpan = true) (hlen : (x.length : Int) = m.traits) (h : InSpans x y) : valuesOk m y = true := by
  refine valuesOk_iff.2 ⟨by have := h.1; omega, fun j a ha => ?_⟩
  have hj := get_lt ha
  have hs : x[j]? = some (x[j]'(by have := h.1; omega)) := List.getElem?_eq_getElem (by have := h.1; omega)
  have h1 := h.2 j a _ ha hs
  have h2 := in_get hall hs
  omega
end
end S
end Go.Proofs.Ytecmlmngcnionaa
namespace Go.Proofs.Ytecmlmngcnionaa
open Go Go.Sx Go.RowKit
set_option maxRecDepth 20000 in
theorem C_law06_model_deep {M : List Nat} {w : World} (hM : MLt M w) :
    Calls Try.prog 30 (List.toArray []) w fun e w' => ∃ v1 v2 v3 : Value, e = .returned (Value.agg (List.toArray [Value.int IntKind.i64 2, v1, v2, Value.int IntKind.i64 50])) ∧ Hp w [] M [ownR [] (openE TreeE) 59 v2 (opn ([(Tree.mk 500 ([(Node.mk 1 50 1 2 0), (Node.mk (-1) 0 0 0 8), (Node.mk (-1) 0 0 0 (-40))] : List Node))] : List Tree) 0 [.int .i64 500, v3]), ownR [] NodeE 62 v3 ([(Node.mk 1 50 1 2 0), (Node.mk (-1) 0 0 0 8), (Node.mk (-1) 0 0 0 (-40))] : List Node)] w' ∧ RdS CardE (mm [ownR [] (openE TreeE) 59 v2 (opn ([(Tree.mk 500 ([(Node.mk 1 50 1 2 0), (Node.mk (-1) 0 0 0 8), (Node.mk (-1) 0 0 0 (-40))] : List Node))] : List Tree) 0 [.int .i64 500, v3]), ownR [] NodeE 62 v3 ([(Node.mk 1 50 1 2 0), (Node.mk (-1) 0 0 0 8), (Node.mk (-1) 0 0 0 (-40))] : List Node)] M) w' v1 ([(Card.mk 1000 20 ([(Scale.mk ([10, 20] : List Int) ([0, 15, 30] : List Int) 5), (Scale.mk ([100] : List Int) ([25, (-10)] : List Int) 0)] : List Scale))] : List Card) := by
  have hI := Hp.start (Mu := []) hM
  refine calls_cw Try.func30 rfl Try.ntmps30 rfl ?_
  refine cw_seq ?_
  refine cw_regF ?_
  refine y_al hI Try.zeroValue25 rfl rfl ?_
  intro b1 w2 hI3 x4
  refine Reg.nil ?_
  refine cw_seq ?_
  refine cw_regF ?_
  refine y_bs (E := (intE .i64)) (xs := [10, 20]) sl26 hI3 rfl rfl (Cls.cons rfl (Cls.cons rfl Cls.nil)) (Chs.cons ⟨rfl, (by decide)⟩ (Chs.cons ⟨rfl, (by decide)⟩ Chs.nil)) rfl rfl ?_
  intro v5 w6 hI7 x8
  refine y_bs (E := (intE .i64)) (xs := [0, 15, 30]) sl26 hI7 rfl rfl (Cls.cons rfl (Cls.cons rfl (Cls.cons rfl Cls.nil))) (Chs.cons ⟨rfl, (by decide)⟩ (Chs.cons ⟨rfl, (by decide)⟩ (Chs.cons ⟨rfl, (by decide)⟩ Chs.nil))) rfl rfl ?_
  intro v9 w10 hI11 x12
  refine s_bd [(0, 1), (1, 1), (2, 1)] Try.zeroValue56 rfl Try.underlying56 (fun _ => by simp [Try.sizeOf26, Try.sizeOf3]) rfl (Cls.cons (Own.cells1 (hI11.ownAt 1 rfl)) (Cls.cons (Own.cells1 (hI11.ownAt 0 rfl)) (Cls.cons rfl (Cls.nil)))) rfl rfl ?_
  refine y_bs (E := (intE .i64)) (xs := [100]) sl26 hI11 rfl rfl (Cls.cons rfl Cls.nil) (Chs.cons ⟨rfl, (by decide)⟩ Chs.nil) rfl rfl ?_
  intro v13 w14 hI15 x16
  refine y_bs (E := (intE .i64)) (xs := [25, (-10)]) sl26 hI15 rfl rfl (Cls.cons rfl (Cls.cons rfl Cls.nil)) (Chs.cons ⟨rfl, (by decide)⟩ (Chs.cons ⟨rfl, (by decide)⟩ Chs.nil)) rfl rfl ?_
  intro v17 w18 hI19 x20
  refine s_bd [(0, 1), (1, 1), (2, 1)] Try.zeroValue56 rfl Try.underlying56 (fun _ => by simp [Try.sizeOf26, Try.sizeOf3]) rfl (Cls.cons (Own.cells1 (hI19.ownAt 1 rfl)) (Cls.cons (Own.cells1 (hI19.ownAt 0 rfl)) (Cls.nil))) rfl rfl ?_
  have hf21 := hI19.freeze 3 rfl
  have hI22 := hI19.erase 3
  have hf23 := hI22.freeze 2 rfl
  have hI24 := hI22.erase 2
  have hf25 := hI24.freeze 1 rfl
  have hI26 := hI24.erase 1
  have hf27 := hI26.freeze 0 rfl
  have hI28 := hI26.erase 0
  refine y_bs (E := ScaleE) (xs := [(Scale.mk ([10, 20] : List Int) ([0, 15, 30] : List Int) 5), (Scale.mk ([100] : List Int) ([25, (-10)] : List Int) 0)]) sl52 hI28 rfl rfl (Cls.cons rfl (Cls.cons rfl Cls.nil)) (Chs.cons ((ScaleE_R (x := (Scale.mk ([10, 20] : List Int) ([0, 15, 30] : List Int) 5))).2 ⟨_, _, rfl, (hf21.adv ((Hp.eraseA (σ := [ownR [] (intE .i64) 3 v17 ([25, (-10)] : List Int), ownR [] (intE .i64) 3 v13 ([100] : List Int), ownR [] (intE .i64) 3 v9 ([0, 15, 30] : List Int), rowR 25 b1 [Value.int IntKind.i64 (0), Value.slice none 0 0, Value.slice none 0 0, Value.int IntKind.i64 (0)]]) 2).trans ((Hp.eraseA (σ := [ownR [] (intE .i64) 3 v17 ([25, (-10)] : List Int), ownR [] (intE .i64) 3 v13 ([100] : List Int), rowR 25 b1 [Value.int IntKind.i64 (0), Value.slice none 0 0, Value.slice none 0 0, Value.int IntKind.i64 (0)]]) 1).trans (Hp.eraseA (σ := [ownR [] (intE .i64) 3 v17 ([25, (-10)] : List Int), rowR 25 b1 [Value.int IntKind.i64 (0), Value.slice none 0 0, Value.slice none 0 0, Value.int IntKind.i64 (0)]]) 0)))), (hf23.adv ((Hp.eraseA (σ := [ownR [] (intE .i64) 3 v17 ([25, (-10)] : List Int), ownR [] (intE .i64) 3 v13 ([100] : List Int), rowR 25 b1 [Value.int IntKind.i64 (0), Value.slice none 0 0, Value.slice none 0 0, Value.int IntKind.i64 (0)]]) 1).trans (Hp.eraseA (σ := [ownR [] (intE .i64) 3 v17 ([25, (-10)] : List Int), rowR 25 b1 [Value.int IntKind.i64 (0), Value.slice none 0 0, Value.slice none 0 0, Value.int IntKind.i64 (0)]]) 0))), (by decide)⟩) (Chs.cons ((ScaleE_R (x := (Scale.mk ([100] : List Int) ([25, (-10)] : List Int) 0))).2 ⟨_, _, rfl, (hf25.adv (Hp.eraseA (σ := [ownR [] (intE .i64) 3 v17 ([25, (-10)] : List Int), rowR 25 b1 [Value.int IntKind.i64 (0), Value.slice none 0 0, Value.slice none 0 0, Value.int IntKind.i64 (0)]]) 0)), hf27, (by decide)⟩) Chs.nil)) rfl rfl ?_
  intro v29 w30 hI31 x32
  refine s_bd [(0, 1), (1, 1), (2, 1)] Try.zeroValue54 rfl Try.underlying54 (fun _ => by simp [Try.sizeOf3, Try.sizeOf52]) rfl (Cls.cons rfl (Cls.cons rfl (Cls.cons (Own.cells1 (hI31.ownAt 0 rfl)) (Cls.nil)))) rfl rfl ?_
  have hf33 := hI31.freeze 0 rfl
  have hI34 := hI31.erase 0
  refine y_bs (E := CardE) (xs := [(Card.mk 1000 20 ([(Scale.mk ([10, 20] : List Int) ([0, 15, 30] : List Int) 5), (Scale.mk ([100] : List Int) ([25, (-10)] : List Int) 0)] : List Scale))]) sl22 hI34 rfl rfl (Cls.cons rfl Cls.nil) (Chs.cons ((CardE_R (x := (Card.mk 1000 20 ([(Scale.mk ([10, 20] : List Int) ([0, 15, 30] : List Int) 5), (Scale.mk ([100] : List Int) ([25, (-10)] : List Int) 0)] : List Scale)))).2 ⟨_, rfl, (by decide), (by decide), hf33⟩) Chs.nil) rfl rfl ?_
  intro v35 w36 hI37 x38
  refine s_bd [(0, 1), (1, 1), (2, 1), (3, 1), (4, 1)] Try.zeroValue62 rfl Try.underlying62 (fun _ => by simp [Try.sizeOf3]) rfl (Cls.cons rfl (Cls.cons rfl (Cls.cons rfl (Cls.cons rfl (Cls.nil))))) rfl rfl ?_
  refine s_bd [(0, 1), (1, 1), (2, 1), (3, 1), (4, 1)] Try.zeroValue62 rfl Try.underlying62 (fun _ => by simp [Try.sizeOf3]) rfl (Cls.cons rfl (Cls.cons rfl (Cls.nil))) rfl rfl ?_
  refine s_bd [(0, 1), (1, 1), (2, 1), (3, 1), (4, 1)] Try.zeroValue62 rfl Try.underlying62 (fun _ => by simp [Try.sizeOf3]) rfl (Cls.cons rfl (Cls.cons rfl (Cls.nil))) rfl rfl ?_
  refine y_bs (E := NodeE) (xs := [(Node.mk 1 50 1 2 0), (Node.mk (-1) 0 0 0 8), (Node.mk (-1) 0 0 0 (-40))]) sl57 hI37 rfl rfl (Cls.cons rfl (Cls.cons rfl (Cls.cons rfl Cls.nil))) (Chs.cons ((NodeE_R (x := (Node.mk 1 50 1 2 0))).2 ⟨rfl, (by decide), (by decide), (by decide), (by decide), (by decide)⟩) (Chs.cons ((NodeE_R (x := (Node.mk (-1) 0 0 0 8))).2 ⟨rfl, (by decide), (by decide), (by decide), (by decide), (by decide)⟩) (Chs.cons ((NodeE_R (x := (Node.mk (-1) 0 0 0 (-40)))).2 ⟨rfl, (by decide), (by decide), (by decide), (by decide), (by decide)⟩) Chs.nil))) rfl rfl ?_
  intro v39 w40 hI41 x42
  refine s_bd [(0, 1), (1, 1)] Try.zeroValue59 rfl Try.underlying59 (fun _ => by simp [Try.sizeOf3, Try.sizeOf57]) rfl (Cls.cons rfl (Cls.cons (Own.cells1 (hI41.ownAt 0 rfl)) (Cls.nil))) rfl rfl ?_
  refine y_bs (E := openE TreeE) (xs := opn ([(Tree.mk 500 ([(Node.mk 1 50 1 2 0), (Node.mk (-1) 0 0 0 8), (Node.mk (-1) 0 0 0 (-40))] : List Node))] : List Tree) 0 [.int .i64 500, v39]) sl23 hI41 rfl rfl (Cls.cons rfl Cls.nil) (Chs.cons ⟨rfl, rfl, one1 rfl (one1 (Own.oneC (hI41.ownAt 0 rfl)) one0)⟩ Chs.nil) rfl rfl ?_
  intro v45 w46 hI47 x48
  refine s_bd [(0, 1), (1, 1), (2, 1), (3, 1)] Try.zeroValue25 rfl Try.underlying25 (fun _ => by simp [Try.sizeOf22, Try.sizeOf23, Try.sizeOf3]) rfl (Cls.cons rfl (Cls.cons rfl (Cls.cons (Own.cells1 (hI47.ownAt 2 rfl)) (Cls.cons (Own.cells1 (hI47.ownAt 0 rfl)) (Cls.nil))))) rfl rfl ?_
  refine y_st 3 hI47 rfl rfl rfl rfl Try.sizeOf25 rfl rfl (one1 rfl (one1 (Own.oneC (hI47.ownAt 2 rfl)) (one1 (Own.oneC (hI47.ownAt 0 rfl)) (one1 rfl one0)))) ?_
  intro w49 hI50 x51
  refine Reg.nil ?_
  refine cw_ret ?_
  have hf52 := hI50.freeze 2 rfl
  have hI53 := hI50.erase 2
  have hI54 := hI53.erase 2
  refine fin_any Try.results30 (AllRs.cons (RsOk.agg rfl (hI53.row 2 rfl).rd.cells Try.isAgg25 rfl Try.sizeOf25) (AllRs.nil)) rfl ?_
  exact ⟨_, _, _, rfl, hI54, hf52.adv (Hp.eraseA (σ := [ownR [] (openE TreeE) 59 v45 (opn ([(Tree.mk 500 ([(Node.mk 1 50 1 2 0), (Node.mk (-1) 0 0 0 8), (Node.mk (-1) 0 0 0 (-40))] : List Node))] : List Tree) 0 [.int .i64 500, v39]), ownR [] NodeE 62 v39 ([(Node.mk 1 50 1 2 0), (Node.mk (-1) 0 0 0 8), (Node.mk (-1) 0 0 0 (-40))] : List Node), rowR 25 b1 [Value.int IntKind.i64 (2), v35, v45, Value.int IntKind.i64 (50)]]) 2)⟩
end Go.Proofs.Ytecmlmngcnionaa
set_option maxRecDepth 20000
namespace Go.Proofs.Ytecmlmngcnionaa
open Go Go.Sx Go.RowKit
noncomputable def P.law06_ScoreExamples  : Option Bool :=
 Option.bind (Option.bind (P.law06_alive ) fun z1 => some (!z1)) fun x6 => cond x6 (some false) (Option.bind (P.law06_model ) fun z8 => Option.bind (P.score_Score z8 ([5, 200] : List Int)) fun (z23, z24, z25) => Option.bind (P.law06_model ) fun z32 => Option.bind (P.score_Points z32 ([12, 30] : List Int)) fun (z49, z50) => Option.bind (P.law06_model ) fun z58 => Option.bind (P.score_Reasons z58 ([12, 30] : List Int)) fun (z75, z76, z77) => Option.bind (cond (!decide (z25 = 0)) (some true) (cond (!decide (z23 = (-10000))) (some true) (cond z24 (some true) (cond (!decide (z50 = 0)) (some true) (Option.bind (P.ref01_SameInts z49 ([60, 8] : List Int)) fun z95 => cond (!z95) (some true) (cond (!decide (z77 = 0)) (some true) (Option.bind (P.ref01_SameInts z75 ([0] : List Int)) fun z106 => cond (!z106) (some true) (Option.bind (P.ref01_SameInts z76 ([0] : List Int)) fun z116 => some (!z116))))))))) fun x121 => cond x121 (some false) (Option.bind (ixo ([(Node.mk 1 50 1 2 0), (Node.mk (-1) 0 0 0 8), (Node.mk (-1) 0 0 0 (-40))] : List Node) 0) fun y141 => Option.bind (seto ([(Node.mk 1 50 1 2 0), (Node.mk (-1) 0 0 0 8), (Node.mk (-1) 0 0 0 (-40))] : List Node) 0 (Node.mk y141.trait y141.cut 0 y141.high y141.points)) fun l152 => Option.bind (P.law06_model ) fun z159 => Option.bind (P.score_Score z159 ([1] : List Int)) fun (z174, z175, z176) => Option.bind (P.law06_model ) fun z183 => Option.bind (P.score_Points z183 ([1, (-2)] : List Int)) fun (z200, z201) => Option.bind (P.law06_model ) fun z209 => Option.bind (P.score_Reasons z209 ([1, 1000001] : List Int)) fun (z226, z227, z228) => Option.bind (P.law06_model ) fun z238 => Option.bind (P.law06_span 0 1) fun z249 => Option.bind (P.law06_span 2 1) fun z256 => Option.bind (P.score_Between z238 ([z249, z256] : List Span)) fun (z267, z268) => Option.bind (P.score_Between (Model.mk 2 ([(Card.mk 1000 20 ([(Scale.mk ([10, 20] : List Int) ([0, 15, 30] : List Int) 5), (Scale.mk ([100] : List Int) ([25, (-10)] : List Int) 0)] : List Scale))] : List Card) (([(Tree.mk 500 ([(Node.mk 1 50 1 2 0), (Node.mk (-1) 0 0 0 8), (Node.mk (-1) 0 0 0 (-40))] : List Node))] : List Tree).set (Int.toNat 0) (Tree.mk 500 l152)) 50) []) fun (z285, z286) => Option.bind (P.score_Reasons (Model.mk 1 [] [] 0) ([4] : List Int)) fun (z309, z310, z311) => Option.bind (Option.bind (P.score_Check (Model.mk 2 ([(Card.mk 1000 20 ([(Scale.mk ([10, 20] : List Int) ([0, 15, 30] : List Int) 5), (Scale.mk ([100] : List Int) ([25, (-10)] : List Int) 0)] : List Scale))] : List Card) (([(Tree.mk 500 ([(Node.mk 1 50 1 2 0), (Node.mk (-1) 0 0 0 8), (Node.mk (-1) 0 0 0 (-40))] : List Node))] : List Tree).set (Int.toNat 0) (Tree.mk 500 l152)) 50)) fun z321 => cond (decide (z321 = 60)) (cond (decide (z176 = 61)) (cond (decide (z201 = 61)) (cond (decide (z228 = 61)) (cond (decide (z268 = 61)) (cond (decide (z286 = 60)) (some (decide (z311 = 6))) (some false)) (some false)) (some false)) (some false)) (some false)) (some false)) fun x333 => some x333))
theorem C_law06_ScoreExamples {M : List Nat} {w : World} (hM : MLt M w)  {r0 : Bool} (h : P.law06_ScoreExamples  = some r0) :
  Calls Try.prog 11 (List.toArray []) w fun e w' => e = .returned (Value.bool r0) ∧ Ext w w' := by
 have hI := Hp.start (Mu := []) hM
 refine calls_cw Try.func11 rfl Try.ntmps11 rfl ?_
 refine cw_seq (cw_regF ?_)
 refine s_as rfl rfl ?_
 refine Reg.nil ?_
 refine cw_seq ?_
 obtain ⟨j1, h2, h⟩ := bnd h
 refine cw_sub (L := []) (Sub.nil _) ?_
 refine cw_seqD 0 (ι := Bool) (fun x3 => [(20, Value.bool x3)]) (fun x3 => fun w4 => Hp w [] M [] w4 ∧ Adv (mm [] M) (mm [] M) w w4 ∧ x3 = j1) ?_ ?_
 ·skip
  refine cw_regF ?_
  refine s_mv rfl rfl ?_
  refine Reg.take rfl rfl ?_
  obtain ⟨z7, hz8, h2⟩ := bnd h2
  refine s_call rfl Try.call24 rfl ?_
  refine (C_law06_alive hI.mlt hz8).mono ?_
  rintro _ w9 ⟨rfl, e10⟩
  refine ⟨_, rfl, ?_⟩
  have hI11 := hI.ext e10
  refine Reg.take rfl rfl ?_
  refine s_not rfl rfl ?_
  refine s_pkF rfl rfl rfl ?_
  refine Reg.nil ?_
  obtain rfl := Option.some.inj h2
  refine ⟨rfl, !z7, ⟨hI11, hI11.adv, rfl⟩, Sub.cons rfl (Sub.nil _)⟩
 ·skip
  rintro x3 w4 ⟨hI5, hA6, rfl⟩
  refine cw_cond rfl (fun hc12 => ?_) (fun hc12 => ?_)
  ·replace h := cdT hc12 h
   refine cw_seq (cw_regF ?_)
   refine s_as rfl rfl ?_
   refine Reg.nil ?_
   refine cw_ret ?_
   obtain rfl := Option.some.inj h
   refine fin1 Try.results11 rfl ?_
   exact ⟨rfl, hI5.kp⟩
  ·replace h := cdF hc12 h
   refine cw_skip (cw_seq (cw_regF ?_))
   obtain ⟨z13, hz14, h⟩ := bnd h
   refine s_call rfl Try.call30 rfl ?_
   refine (C_law06_model hI5.mlt hz14).mono ?_
   rintro _ w15 ⟨v18, v20, rfl, r17, hf19, hf21, r22, e16⟩
   refine ⟨_, rfl, ?_⟩
   have hI23 := hI5.ext e16
   refine y_bs (E := (intE .i64)) (xs := [5, 200]) sl26 hI23 rfl rfl (Cls.cons rfl (Cls.cons rfl Cls.nil)) (Chs.cons ⟨rfl, (by decide)⟩ (Chs.cons ⟨rfl, (by decide)⟩ Chs.nil)) rfl rfl ?_
   intro v24 w25 hI26 x27
   obtain ⟨⟨z28, z29, z30⟩, hz31, h⟩ := bnd h
   refine s_call rfl Try.call14 rfl ?_
   refine (C_score_Score (m := z13) (hI26.sel [] rfl).mlt r17 ((hf19.adv x27).adv (Hp.selA (σ := [ownR [] (intE .i64) 3 v24 ([5, 200] : List Int)]) [])) ((hf21.adv x27).adv (Hp.selA (σ := [ownR [] (intE .i64) 3 v24 ([5, 200] : List Int)]) [])) r22 (hI26.lendRd [] 0 rfl rfl) hz31).mono ?_
   rintro _ w32 ⟨rfl, r34, r35, e33⟩
   refine ⟨_, rfl, ?_⟩
   have hI36 := hI26.ext e33
   refine s_mv rfl rfl ?_
   refine s_xt rfl rfl rfl ?_
   refine s_xt rfl rfl rfl ?_
   refine s_xt rfl rfl rfl ?_
   refine s_as rfl rfl ?_
   refine s_as rfl rfl ?_
   refine s_as rfl rfl ?_
   refine Reg.nil ?_
   refine cw_seq (cw_regF ?_)
   obtain ⟨z37, hz38, h⟩ := bnd h
   refine s_call rfl Try.call30 rfl ?_
   refine (C_law06_model hI36.mlt hz38).mono ?_
   rintro _ w39 ⟨v42, v44, rfl, r41, hf43, hf45, r46, e40⟩
   refine ⟨_, rfl, ?_⟩
   have hI47 := hI36.ext e40
   refine y_bs (E := (intE .i64)) (xs := [12, 30]) sl26 hI47 rfl rfl (Cls.cons rfl (Cls.cons rfl Cls.nil)) (Chs.cons ⟨rfl, (by decide)⟩ (Chs.cons ⟨rfl, (by decide)⟩ Chs.nil)) rfl rfl ?_
   intro v48 w49 hI50 x51
   have hf52 := hI50.freeze 0 rfl
   have hI53 := hI50.erase 0
   obtain ⟨⟨z54, z55⟩, hz56, h⟩ := bnd h
   refine s_call rfl Try.call16 rfl ?_
   refine (C_score_Points (m := z37) hI53.mlt r41 (hf43.adv (x51.trans (Hp.eraseA (σ := [ownR [] (intE .i64) 3 v48 ([12, 30] : List Int), ownR [] (intE .i64) 3 v24 ([5, 200] : List Int)]) 0))) (hf45.adv (x51.trans (Hp.eraseA (σ := [ownR [] (intE .i64) 3 v48 ([12, 30] : List Int), ownR [] (intE .i64) 3 v24 ([5, 200] : List Int)]) 0))) r46 hf52 hz56).mono ?_
   rintro _ w57 ⟨v59, rfl, hf60, r61, e58⟩
   refine ⟨_, rfl, ?_⟩
   have hI62 := hI53.addOwn e58 hf60
   refine s_mv rfl rfl ?_
   refine s_xt rfl rfl rfl ?_
   refine s_xt rfl rfl rfl ?_
   refine s_as rfl rfl ?_
   refine s_as rfl rfl ?_
   refine Reg.nil ?_
   refine cw_seq (cw_regF ?_)
   obtain ⟨z63, hz64, h⟩ := bnd h
   refine s_call rfl Try.call30 rfl ?_
   refine (C_law06_model hI62.mlt hz64).mono ?_
   rintro _ w65 ⟨v68, v70, rfl, r67, hf69, hf71, r72, e66⟩
   refine ⟨_, rfl, ?_⟩
   have hI73 := hI62.ext e66
   refine y_bs (E := (intE .i64)) (xs := [12, 30]) sl26 hI73 rfl rfl (Cls.cons rfl (Cls.cons rfl Cls.nil)) (Chs.cons ⟨rfl, (by decide)⟩ (Chs.cons ⟨rfl, (by decide)⟩ Chs.nil)) rfl rfl ?_
   intro v74 w75 hI76 x77
   have hf78 := hI76.freeze 0 rfl
   have hI79 := hI76.erase 0
   obtain ⟨⟨z80, z81, z82⟩, hz83, h⟩ := bnd h
   refine s_call rfl Try.call28 rfl ?_
   refine (C_score_Reasons (m := z63) hI79.mlt r67 (hf69.adv (x77.trans (Hp.eraseA (σ := [ownR [] (intE .i64) 3 v74 ([12, 30] : List Int), ownR [] (intE .i64) 3 v59 z54, ownR [] (intE .i64) 3 v24 ([5, 200] : List Int)]) 0))) (hf71.adv (x77.trans (Hp.eraseA (σ := [ownR [] (intE .i64) 3 v74 ([12, 30] : List Int), ownR [] (intE .i64) 3 v59 z54, ownR [] (intE .i64) 3 v24 ([5, 200] : List Int)]) 0))) r72 hf78 hz83).mono ?_
   rintro _ w84 ⟨v86, v88, rfl, hf87, hf89, r90, e85⟩
   refine ⟨_, rfl, ?_⟩
   have hI91 := hI79.ext e85
   refine s_mv rfl rfl ?_
   refine s_xt rfl rfl rfl ?_
   refine s_xt rfl rfl rfl ?_
   refine s_xt rfl rfl rfl ?_
   refine s_as rfl rfl ?_
   refine s_as rfl rfl ?_
   refine s_as rfl rfl ?_
   refine Reg.nil ?_
   refine cw_seq ?_
   obtain ⟨j92, h93, h⟩ := bnd h
   refine cw_sub (L := [(1, _), (2, _), (3, _), (4, _), (5, _), (6, _), (7, _), (8, _)]) (Sub.cons rfl (Sub.cons rfl (Sub.cons rfl (Sub.cons rfl (Sub.cons rfl (Sub.cons rfl (Sub.cons rfl (Sub.cons rfl (Sub.nil _))))))))) ?_
   refine cw_seqD 8 (ι := Bool) (fun x94 => [(75, Value.bool x94)]) (fun x94 => fun w95 => Hp w [] M [ownR [] (intE .i64) 3 v59 z54, ownR [] (intE .i64) 3 v24 ([5, 200] : List Int)] w95 ∧ Adv (mm [ownR [] (intE .i64) 3 v59 z54, ownR [] (intE .i64) 3 v24 ([5, 200] : List Int)] M) (mm [ownR [] (intE .i64) 3 v59 z54, ownR [] (intE .i64) 3 v24 ([5, 200] : List Int)] M) w84 w95 ∧ x94 = j92) ?_ ?_
   ·skip
    refine cw_regF ?_
    refine s_mv rfl rfl ?_
    refine s_neq rfl rfl rfl ?_
    refine s_mv rfl rfl ?_
    refine Reg.gsplit (t := 43) rfl (fun hg98 => ?_) (fun hg98 => ?_)
    ·replace h93 := cdT hg98 h93
     refine Reg.pass rfl rfl rfl rfl ?_
     refine Reg.pass rfl rfl rfl rfl ?_
     refine s_pkT rfl rfl rfl ?_
     refine s_mv rfl rfl ?_
     refine Reg.pass rfl rfl rfl rfl ?_
     refine s_pkT rfl rfl rfl ?_
     refine s_mv rfl rfl ?_
     refine Reg.pass rfl rfl rfl rfl ?_
     refine Reg.pass rfl rfl rfl rfl ?_
     refine s_pkT rfl rfl rfl ?_
     refine s_mv rfl rfl ?_
     refine Reg.pass rfl rfl rfl rfl ?_
     refine Reg.pass rfl rfl rfl rfl ?_
     refine Reg.pass rfl rfl rfl rfl ?_
     refine Reg.pass rfl rfl rfl rfl ?_
     refine s_pkT rfl rfl rfl ?_
     refine s_mv rfl rfl ?_
     refine Reg.pass rfl rfl rfl rfl ?_
     refine Reg.pass rfl rfl rfl rfl ?_
     refine s_pkT rfl rfl rfl ?_
     refine s_mv rfl rfl ?_
     refine Reg.pass rfl rfl rfl rfl ?_
     refine Reg.pass rfl rfl rfl rfl ?_
     refine Reg.pass rfl rfl rfl rfl ?_
     refine Reg.pass rfl rfl rfl rfl ?_
     refine s_pkT rfl rfl rfl ?_
     refine s_mv rfl rfl ?_
     refine Reg.pass rfl rfl rfl rfl ?_
     refine Reg.pass rfl rfl rfl rfl ?_
     refine Reg.pass rfl rfl rfl rfl ?_
     refine Reg.pass rfl rfl rfl rfl ?_
     refine s_pkT rfl rfl rfl ?_
     refine Reg.nil ?_
     obtain rfl := Option.some.inj h93
     refine ⟨rfl, true, ⟨hI91, (Adv.refl _ _), rfl⟩, Sub.cons rfl (Sub.nil _)⟩
    ·replace h93 := cdF hg98 h93
     refine Reg.take rfl rfl ?_
     refine s_mv rfl rfl ?_
     refine Reg.take rfl rfl ?_
     refine s_neq rfl rfl rfl ?_
     refine s_pkF rfl rfl rfl ?_
     refine s_mv rfl rfl ?_
     refine Reg.gsplit (t := 47) rfl (fun hg99 => ?_) (fun hg99 => ?_)
     ·replace h93 := cdT hg99 h93
      refine Reg.pass rfl rfl rfl rfl ?_
      refine s_pkT rfl rfl rfl ?_
      refine s_mv rfl rfl ?_
      refine Reg.pass rfl rfl rfl rfl ?_
      refine Reg.pass rfl rfl rfl rfl ?_
      refine s_pkT rfl rfl rfl ?_
      refine s_mv rfl rfl ?_
      refine Reg.pass rfl rfl rfl rfl ?_
      refine Reg.pass rfl rfl rfl rfl ?_
      refine Reg.pass rfl rfl rfl rfl ?_
      refine Reg.pass rfl rfl rfl rfl ?_
      refine s_pkT rfl rfl rfl ?_
      refine s_mv rfl rfl ?_
      refine Reg.pass rfl rfl rfl rfl ?_
      refine Reg.pass rfl rfl rfl rfl ?_
      refine s_pkT rfl rfl rfl ?_
      refine s_mv rfl rfl ?_
      refine Reg.pass rfl rfl rfl rfl ?_
      refine Reg.pass rfl rfl rfl rfl ?_
      refine Reg.pass rfl rfl rfl rfl ?_
      refine Reg.pass rfl rfl rfl rfl ?_
      refine s_pkT rfl rfl rfl ?_
      refine s_mv rfl rfl ?_
      refine Reg.pass rfl rfl rfl rfl ?_
      refine Reg.pass rfl rfl rfl rfl ?_
      refine Reg.pass rfl rfl rfl rfl ?_
      refine Reg.pass rfl rfl rfl rfl ?_
      refine s_pkT rfl rfl rfl ?_
      refine Reg.nil ?_
      obtain rfl := Option.some.inj h93
      refine ⟨rfl, true, ⟨hI91, (Adv.refl _ _), rfl⟩, Sub.cons rfl (Sub.nil _)⟩
     ·replace h93 := cdF hg99 h93
      refine Reg.take rfl rfl ?_
      refine s_mv rfl rfl ?_
      refine s_pkF rfl rfl rfl ?_
      refine s_mv rfl rfl ?_
      refine Reg.gsplit (t := 50) rfl (fun hg100 => ?_) (fun hg100 => ?_)
      ·replace h93 := cdT hg100 h93
       refine Reg.pass rfl rfl rfl rfl ?_
       refine Reg.pass rfl rfl rfl rfl ?_
       refine s_pkT rfl rfl rfl ?_
       refine s_mv rfl rfl ?_
       refine Reg.pass rfl rfl rfl rfl ?_
       refine Reg.pass rfl rfl rfl rfl ?_
       refine Reg.pass rfl rfl rfl rfl ?_
       refine Reg.pass rfl rfl rfl rfl ?_
       refine s_pkT rfl rfl rfl ?_
       refine s_mv rfl rfl ?_
       refine Reg.pass rfl rfl rfl rfl ?_
       refine Reg.pass rfl rfl rfl rfl ?_
       refine s_pkT rfl rfl rfl ?_
       refine s_mv rfl rfl ?_
       refine Reg.pass rfl rfl rfl rfl ?_
       refine Reg.pass rfl rfl rfl rfl ?_
       refine Reg.pass rfl rfl rfl rfl ?_
       refine Reg.pass rfl rfl rfl rfl ?_
       refine s_pkT rfl rfl rfl ?_
       refine s_mv rfl rfl ?_
       refine Reg.pass rfl rfl rfl rfl ?_
       refine Reg.pass rfl rfl rfl rfl ?_
       refine Reg.pass rfl rfl rfl rfl ?_
       refine Reg.pass rfl rfl rfl rfl ?_
       refine s_pkT rfl rfl rfl ?_
       refine Reg.nil ?_
       obtain rfl := Option.some.inj h93
       refine ⟨rfl, true, ⟨hI91, (Adv.refl _ _), rfl⟩, Sub.cons rfl (Sub.nil _)⟩
      ·replace h93 := cdF hg100 h93
       refine Reg.take rfl rfl ?_
       refine s_mv rfl rfl ?_
       refine Reg.take rfl rfl ?_
       refine s_neq rfl rfl rfl ?_
       refine s_pkF rfl rfl rfl ?_
       refine s_mv rfl rfl ?_
       refine Reg.gsplit (t := 54) rfl (fun hg101 => ?_) (fun hg101 => ?_)
       ·replace h93 := cdT hg101 h93
        refine Reg.pass rfl rfl rfl rfl ?_
        refine Reg.pass rfl rfl rfl rfl ?_
        refine Reg.pass rfl rfl rfl rfl ?_
        refine Reg.pass rfl rfl rfl rfl ?_
        refine s_pkT rfl rfl rfl ?_
        refine s_mv rfl rfl ?_
        refine Reg.pass rfl rfl rfl rfl ?_
        refine Reg.pass rfl rfl rfl rfl ?_
        refine s_pkT rfl rfl rfl ?_
        refine s_mv rfl rfl ?_
        refine Reg.pass rfl rfl rfl rfl ?_
        refine Reg.pass rfl rfl rfl rfl ?_
        refine Reg.pass rfl rfl rfl rfl ?_
        refine Reg.pass rfl rfl rfl rfl ?_
        refine s_pkT rfl rfl rfl ?_
        refine s_mv rfl rfl ?_
        refine Reg.pass rfl rfl rfl rfl ?_
        refine Reg.pass rfl rfl rfl rfl ?_
        refine Reg.pass rfl rfl rfl rfl ?_
        refine Reg.pass rfl rfl rfl rfl ?_
        refine s_pkT rfl rfl rfl ?_
        refine Reg.nil ?_
        obtain rfl := Option.some.inj h93
        refine ⟨rfl, true, ⟨hI91, (Adv.refl _ _), rfl⟩, Sub.cons rfl (Sub.nil _)⟩
       ·replace h93 := cdF hg101 h93
        refine Reg.take rfl rfl ?_
        refine s_mv rfl rfl ?_
        refine Reg.take rfl rfl ?_
        refine y_bs (E := (intE .i64)) (xs := [60, 8]) sl26 hI91 rfl rfl (Cls.cons rfl (Cls.cons rfl Cls.nil)) (Chs.cons ⟨rfl, (by decide)⟩ (Chs.cons ⟨rfl, (by decide)⟩ Chs.nil)) rfl rfl ?_
        intro v102 w103 hI104 x105
        refine Reg.take rfl rfl ?_
        obtain ⟨z106, hz107, h93⟩ := bnd h93
        refine s_call rfl Try.call20 rfl ?_
        refine (C_ref01_SameInts (hI104.sel [2] rfl).mlt (hI104.lendRd [2] 1 rfl rfl) (hI104.lendRd [2] 0 rfl rfl) hz107).mono ?_
        rintro _ w108 ⟨rfl, e109⟩
        refine ⟨_, rfl, ?_⟩
        have hI110 := hI104.ext e109
        refine Reg.take rfl rfl ?_
        refine s_not rfl rfl ?_
        refine s_pkF rfl rfl rfl ?_
        refine s_mv rfl rfl ?_
        refine Reg.gsplit (t := 60) rfl (fun hg111 => ?_) (fun hg111 => ?_)
        ·replace h93 := cdT hg111 h93
         refine Reg.pass rfl rfl rfl rfl ?_
         refine Reg.pass rfl rfl rfl rfl ?_
         refine s_pkT rfl rfl rfl ?_
         refine s_mv rfl rfl ?_
         refine Reg.pass rfl rfl rfl rfl ?_
         refine Reg.pass rfl rfl rfl rfl ?_
         refine Reg.pass rfl rfl rfl rfl ?_
         refine Reg.pass rfl rfl rfl rfl ?_
         refine s_pkT rfl rfl rfl ?_
         refine s_mv rfl rfl ?_
         refine Reg.pass rfl rfl rfl rfl ?_
         refine Reg.pass rfl rfl rfl rfl ?_
         refine Reg.pass rfl rfl rfl rfl ?_
         refine Reg.pass rfl rfl rfl rfl ?_
         refine s_pkT rfl rfl rfl ?_
         refine Reg.nil ?_
         obtain rfl := Option.some.inj h93
         refine ⟨rfl, true, ⟨(hI110.sel [1, 2] rfl), ((x105.trans (Adv.of_ext e109)).trans (Hp.selA (σ := [ownR [] (intE .i64) 3 v102 ([60, 8] : List Int), ownR [] (intE .i64) 3 v59 z54, ownR [] (intE .i64) 3 v24 ([5, 200] : List Int)]) [1, 2])), rfl⟩, Sub.cons rfl (Sub.nil _)⟩
        ·replace h93 := cdF hg111 h93
         refine Reg.take rfl rfl ?_
         refine s_mv rfl rfl ?_
         refine Reg.take rfl rfl ?_
         refine s_neq rfl rfl rfl ?_
         refine s_pkF rfl rfl rfl ?_
         refine s_mv rfl rfl ?_
         refine Reg.gsplit (t := 64) rfl (fun hg112 => ?_) (fun hg112 => ?_)
         ·replace h93 := cdT hg112 h93
          refine Reg.pass rfl rfl rfl rfl ?_
          refine Reg.pass rfl rfl rfl rfl ?_
          refine Reg.pass rfl rfl rfl rfl ?_
          refine Reg.pass rfl rfl rfl rfl ?_
          refine s_pkT rfl rfl rfl ?_
          refine s_mv rfl rfl ?_
          refine Reg.pass rfl rfl rfl rfl ?_
          refine Reg.pass rfl rfl rfl rfl ?_
          refine Reg.pass rfl rfl rfl rfl ?_
          refine Reg.pass rfl rfl rfl rfl ?_
          refine s_pkT rfl rfl rfl ?_
          refine Reg.nil ?_
          obtain rfl := Option.some.inj h93
          refine ⟨rfl, true, ⟨(hI110.sel [1, 2] rfl), ((x105.trans (Adv.of_ext e109)).trans (Hp.selA (σ := [ownR [] (intE .i64) 3 v102 ([60, 8] : List Int), ownR [] (intE .i64) 3 v59 z54, ownR [] (intE .i64) 3 v24 ([5, 200] : List Int)]) [1, 2])), rfl⟩, Sub.cons rfl (Sub.nil _)⟩
         ·replace h93 := cdF hg112 h93
          refine Reg.take rfl rfl ?_
          refine s_mv rfl rfl ?_
          refine Reg.take rfl rfl ?_
          refine y_bs (E := (intE .i64)) (xs := [0]) sl26 hI110 rfl rfl (Cls.cons rfl Cls.nil) (Chs.cons ⟨rfl, (by decide)⟩ Chs.nil) rfl rfl ?_
          intro v113 w114 hI115 x116
          refine Reg.take rfl rfl ?_
          obtain ⟨z117, hz118, h93⟩ := bnd h93
          refine s_call rfl Try.call20 rfl ?_
          refine (C_ref01_SameInts (hI115.sel [1, 2, 3] rfl).mlt ((hf87.adv (x105.trans ((Adv.of_ext e109).trans x116))).adv (Hp.selA (σ := [ownR [] (intE .i64) 3 v113 ([0] : List Int), ownR [] (intE .i64) 3 v102 ([60, 8] : List Int), ownR [] (intE .i64) 3 v59 z54, ownR [] (intE .i64) 3 v24 ([5, 200] : List Int)]) [1, 2, 3])) (hI115.lendRd [1, 2, 3] 0 rfl rfl) hz118).mono ?_
          rintro _ w119 ⟨rfl, e120⟩
          refine ⟨_, rfl, ?_⟩
          have hI121 := hI115.ext e120
          refine Reg.take rfl rfl ?_
          refine s_not rfl rfl ?_
          refine s_pkF rfl rfl rfl ?_
          refine s_mv rfl rfl ?_
          refine Reg.gsplit (t := 70) rfl (fun hg122 => ?_) (fun hg122 => ?_)
          ·replace h93 := cdT hg122 h93
           refine Reg.pass rfl rfl rfl rfl ?_
           refine Reg.pass rfl rfl rfl rfl ?_
           refine Reg.pass rfl rfl rfl rfl ?_
           refine Reg.pass rfl rfl rfl rfl ?_
           refine s_pkT rfl rfl rfl ?_
           refine Reg.nil ?_
           obtain rfl := Option.some.inj h93
           refine ⟨rfl, true, ⟨(hI121.sel [2, 3] rfl), ((x105.trans ((Adv.of_ext e109).trans (x116.trans (Adv.of_ext e120)))).trans (Hp.selA (σ := [ownR [] (intE .i64) 3 v113 ([0] : List Int), ownR [] (intE .i64) 3 v102 ([60, 8] : List Int), ownR [] (intE .i64) 3 v59 z54, ownR [] (intE .i64) 3 v24 ([5, 200] : List Int)]) [2, 3])), rfl⟩, Sub.cons rfl (Sub.nil _)⟩
          ·replace h93 := cdF hg122 h93
           refine Reg.take rfl rfl ?_
           refine s_mv rfl rfl ?_
           refine Reg.take rfl rfl ?_
           refine y_bs (E := (intE .i64)) (xs := [0]) sl26 hI121 rfl rfl (Cls.cons rfl Cls.nil) (Chs.cons ⟨rfl, (by decide)⟩ Chs.nil) rfl rfl ?_
           intro v123 w124 hI125 x126
           refine Reg.take rfl rfl ?_
           obtain ⟨z127, hz128, h93⟩ := bnd h93
           refine s_call rfl Try.call20 rfl ?_
           refine (C_ref01_SameInts (hI125.sel [1, 2, 3, 4] rfl).mlt ((hf89.adv (x105.trans ((Adv.of_ext e109).trans (x116.trans ((Adv.of_ext e120).trans x126))))).adv (Hp.selA (σ := [ownR [] (intE .i64) 3 v123 ([0] : List Int), ownR [] (intE .i64) 3 v113 ([0] : List Int), ownR [] (intE .i64) 3 v102 ([60, 8] : List Int), ownR [] (intE .i64) 3 v59 z54, ownR [] (intE .i64) 3 v24 ([5, 200] : List Int)]) [1, 2, 3, 4])) (hI125.lendRd [1, 2, 3, 4] 0 rfl rfl) hz128).mono ?_
           rintro _ w129 ⟨rfl, e130⟩
           refine ⟨_, rfl, ?_⟩
           have hI131 := hI125.ext e130
           refine Reg.take rfl rfl ?_
           refine s_not rfl rfl ?_
           refine s_pkF rfl rfl rfl ?_
           refine Reg.nil ?_
           obtain rfl := Option.some.inj h93
           refine ⟨rfl, !z127, ⟨(hI131.sel [3, 4] rfl), ((x105.trans ((Adv.of_ext e109).trans (x116.trans ((Adv.of_ext e120).trans (x126.trans (Adv.of_ext e130)))))).trans (Hp.selA (σ := [ownR [] (intE .i64) 3 v123 ([0] : List Int), ownR [] (intE .i64) 3 v113 ([0] : List Int), ownR [] (intE .i64) 3 v102 ([60, 8] : List Int), ownR [] (intE .i64) 3 v59 z54, ownR [] (intE .i64) 3 v24 ([5, 200] : List Int)]) [3, 4])), rfl⟩, Sub.cons rfl (Sub.nil _)⟩
   ·skip
    rintro x94 w95 ⟨hI96, hA97, rfl⟩
    refine cw_cond rfl (fun hc132 => ?_) (fun hc132 => ?_)
    ·replace h := cdT hc132 h
     refine cw_seq (cw_regF ?_)
     refine s_as rfl rfl ?_
     refine Reg.nil ?_
     refine cw_ret ?_
     obtain rfl := Option.some.inj h
     refine fin1 Try.results11 rfl ?_
     exact ⟨rfl, hI96.kp⟩
    ·replace h := cdF hc132 h
     refine cw_skip (cw_seq (cw_regF ?_))
     refine s_call rfl Try.call30 rfl ?_
     refine (C_law06_model_deep hI96.mlt).mono ?_
     rintro _ w133 ⟨v134, v135, v136, rfl, hS137, hc138⟩
     refine ⟨_, rfl, ?_⟩
     have hI139 := hI96.join hS137
     have hz140 : ixo ([(Tree.mk 500 ([(Node.mk 1 50 1 2 0), (Node.mk (-1) 0 0 0 8), (Node.mk (-1) 0 0 0 (-40))] : List Node))] : List Tree) 0 = some (Tree.mk 500 ([(Node.mk 1 50 1 2 0), (Node.mk (-1) 0 0 0 8), (Node.mk (-1) 0 0 0 (-40))] : List Node)) := rfl
     refine y_al hI139 Try.zeroValue25 rfl rfl ?_
     intro b141 w142 hI143 x144
     refine y_st 0 hI143 rfl rfl rfl rfl Try.sizeOf25 rfl rfl (one1 rfl (one1 (RdS.oneC hc138) (one1 (Own.oneC (hI143.ownAt 1 rfl)) (one1 rfl one0)))) ?_
     intro w145 hI146 x147
     refine Reg.nil ?_
     refine cw_seq (cw_regF ?_)
     refine s_fa rfl Try.underlying25 rfl Try.sizeOf23 rfl ?_
     refine s_ld rfl ((hI146.row 0 rfl).rd.cells.at 2 rfl) Try.isAgg23 rfl ?_
     refine y_iaOpen 1 hI146 rfl rfl rfl hz140 Try.underlying23 Try.sizeOf59 rfl ?_
     intro g148 hg149 hC150
     refine s_fa rfl Try.underlying59 rfl Try.sizeOf57 rfl ?_
     refine s_ld rfl (hC150.at 1 rfl) Try.isAgg57 rfl ?_
     obtain ⟨y151, hy151, h⟩ := bnd h
     refine y_ia 2 hI146 rfl rfl rfl hy151 Try.underlying57 Try.sizeOf62 rfl ?_
     intro g152 cs153 hg154 hR155 hC156
     have khR155 := hR155
     obtain ⟨rfl, r157, r158, r159, r160, r161⟩ := NodeE_R.1 hR155
     refine s_fa rfl Try.underlying62 rfl Try.sizeOf3 rfl ?_
     obtain ⟨l162, hl162, h⟩ := bnd h
     refine y_sto 2 (E := NodeE) (o := 2) hI146 rfl rfl rfl rfl hg154 hl162 ((NodeE_R (x := y151)).2 ⟨rfl, r157, r158, r159, r160, r161⟩) hC156 ((NodeE_R (x := (Node.mk y151.trait y151.cut 0 y151.high y151.points))).2 ⟨rfl, r157, r158, (show InK .i64 (0) by decide), r160, r161⟩) rfl Try.sizeOf3 rfl (one1 rfl one0) ?_
     intro w163 hI164 x165
     refine Reg.nil ?_
     have hf166 := hI164.freeze 2 rfl
     have hI167 := hI164.erase 2
     have hI168 := hI167.shut 1 (E := TreeE) (z := (Tree.mk 500 l162)) rfl ((TreeE_R (x := (Tree.mk 500 l162))).2 ⟨_, rfl, (show InK .i64 (500) by decide), hf166⟩)
     refine cw_seq (cw_regF ?_)
     obtain ⟨z169, hz170, h⟩ := bnd h
     refine s_call rfl Try.call30 rfl ?_
     refine (C_law06_model hI168.mlt hz170).mono ?_
     rintro _ w171 ⟨v174, v176, rfl, r173, hf175, hf177, r178, e172⟩
     refine ⟨_, rfl, ?_⟩
     have hI179 := hI168.ext e172
     refine y_bs (E := (intE .i64)) (xs := [1]) sl26 hI179 rfl rfl (Cls.cons rfl Cls.nil) (Chs.cons ⟨rfl, (by decide)⟩ Chs.nil) rfl rfl ?_
     intro v180 w181 hI182 x183
     obtain ⟨⟨z184, z185, z186⟩, hz187, h⟩ := bnd h
     refine s_call rfl Try.call14 rfl ?_
     refine (C_score_Score (m := z169) (hI182.sel [1, 2, 3, 4] rfl).mlt r173 ((hf175.adv x183).adv (Hp.selA (σ := [ownR [] (intE .i64) 3 v180 ([1] : List Int), rowR 25 b141 [Value.int .i64 2, v134, v135, Value.int .i64 50], ownR [] TreeE 59 v135 (([(Tree.mk 500 ([(Node.mk 1 50 1 2 0), (Node.mk (-1) 0 0 0 8), (Node.mk (-1) 0 0 0 (-40))] : List Node))] : List Tree).set (Int.toNat 0) (Tree.mk 500 l162)), ownR [] (intE .i64) 3 v59 z54, ownR [] (intE .i64) 3 v24 ([5, 200] : List Int)]) [1, 2, 3, 4])) ((hf177.adv x183).adv (Hp.selA (σ := [ownR [] (intE .i64) 3 v180 ([1] : List Int), rowR 25 b141 [Value.int .i64 2, v134, v135, Value.int .i64 50], ownR [] TreeE 59 v135 (([(Tree.mk 500 ([(Node.mk 1 50 1 2 0), (Node.mk (-1) 0 0 0 8), (Node.mk (-1) 0 0 0 (-40))] : List Node))] : List Tree).set (Int.toNat 0) (Tree.mk 500 l162)), ownR [] (intE .i64) 3 v59 z54, ownR [] (intE .i64) 3 v24 ([5, 200] : List Int)]) [1, 2, 3, 4])) r178 (hI182.lendRd [1, 2, 3, 4] 0 rfl rfl) hz187).mono ?_
     rintro _ w188 ⟨rfl, r190, r191, e189⟩
     refine ⟨_, rfl, ?_⟩
     have hI192 := hI182.ext e189
     refine s_mv rfl rfl ?_
     refine s_xt rfl rfl rfl ?_
     refine s_xt rfl rfl rfl ?_
     refine s_xt rfl rfl rfl ?_
     refine s_as rfl rfl ?_
     refine Reg.nil ?_
     refine cw_seq (cw_regF ?_)
     obtain ⟨z193, hz194, h⟩ := bnd h
     refine s_call rfl Try.call30 rfl ?_
     refine (C_law06_model hI192.mlt hz194).mono ?_
     rintro _ w195 ⟨v198, v200, rfl, r197, hf199, hf201, r202, e196⟩
     refine ⟨_, rfl, ?_⟩
     have hI203 := hI192.ext e196
     refine y_bs (E := (intE .i64)) (xs := [1, (-2)]) sl26 hI203 rfl rfl (Cls.cons rfl (Cls.cons rfl Cls.nil)) (Chs.cons ⟨rfl, (by decide)⟩ (Chs.cons ⟨rfl, (by decide)⟩ Chs.nil)) rfl rfl ?_
     intro v204 w205 hI206 x207
     have hf208 := hI206.freeze 0 rfl
     have hI209 := hI206.erase 0
     obtain ⟨⟨z210, z211⟩, hz212, h⟩ := bnd h
     refine s_call rfl Try.call16 rfl ?_
     refine (C_score_Points (m := z193) hI209.mlt r197 (hf199.adv (x207.trans (Hp.eraseA (σ := [ownR [] (intE .i64) 3 v204 ([1, (-2)] : List Int), ownR [] (intE .i64) 3 v180 ([1] : List Int), rowR 25 b141 [Value.int .i64 2, v134, v135, Value.int .i64 50], ownR [] TreeE 59 v135 (([(Tree.mk 500 ([(Node.mk 1 50 1 2 0), (Node.mk (-1) 0 0 0 8), (Node.mk (-1) 0 0 0 (-40))] : List Node))] : List Tree).set (Int.toNat 0) (Tree.mk 500 l162)), ownR [] (intE .i64) 3 v59 z54, ownR [] (intE .i64) 3 v24 ([5, 200] : List Int)]) 0))) (hf201.adv (x207.trans (Hp.eraseA (σ := [ownR [] (intE .i64) 3 v204 ([1, (-2)] : List Int), ownR [] (intE .i64) 3 v180 ([1] : List Int), rowR 25 b141 [Value.int .i64 2, v134, v135, Value.int .i64 50], ownR [] TreeE 59 v135 (([(Tree.mk 500 ([(Node.mk 1 50 1 2 0), (Node.mk (-1) 0 0 0 8), (Node.mk (-1) 0 0 0 (-40))] : List Node))] : List Tree).set (Int.toNat 0) (Tree.mk 500 l162)), ownR [] (intE .i64) 3 v59 z54, ownR [] (intE .i64) 3 v24 ([5, 200] : List Int)]) 0))) r202 hf208 hz212).mono ?_
     rintro _ w213 ⟨v215, rfl, hf216, r217, e214⟩
     refine ⟨_, rfl, ?_⟩
     have hI218 := hI209.addOwn e214 hf216
     refine s_mv rfl rfl ?_
     refine s_xt rfl rfl rfl ?_
     refine s_xt rfl rfl rfl ?_
     refine s_as rfl rfl ?_
     refine Reg.nil ?_
     refine cw_seq (cw_regF ?_)
     obtain ⟨z219, hz220, h⟩ := bnd h
     refine s_call rfl Try.call30 rfl ?_
     refine (C_law06_model hI218.mlt hz220).mono ?_
     rintro _ w221 ⟨v224, v226, rfl, r223, hf225, hf227, r228, e222⟩
     refine ⟨_, rfl, ?_⟩
     have hI229 := hI218.ext e222
     refine y_bs (E := (intE .i64)) (xs := [1, 1000001]) sl26 hI229 rfl rfl (Cls.cons rfl (Cls.cons rfl Cls.nil)) (Chs.cons ⟨rfl, (by decide)⟩ (Chs.cons ⟨rfl, (by decide)⟩ Chs.nil)) rfl rfl ?_
     intro v230 w231 hI232 x233
     have hf234 := hI232.freeze 0 rfl
     have hI235 := hI232.erase 0
     obtain ⟨⟨z236, z237, z238⟩, hz239, h⟩ := bnd h
     refine s_call rfl Try.call28 rfl ?_
     refine (C_score_Reasons (m := z219) hI235.mlt r223 (hf225.adv (x233.trans (Hp.eraseA (σ := [ownR [] (intE .i64) 3 v230 ([1, 1000001] : List Int), ownR [] (intE .i64) 3 v215 z210, ownR [] (intE .i64) 3 v180 ([1] : List Int), rowR 25 b141 [Value.int .i64 2, v134, v135, Value.int .i64 50], ownR [] TreeE 59 v135 (([(Tree.mk 500 ([(Node.mk 1 50 1 2 0), (Node.mk (-1) 0 0 0 8), (Node.mk (-1) 0 0 0 (-40))] : List Node))] : List Tree).set (Int.toNat 0) (Tree.mk 500 l162)), ownR [] (intE .i64) 3 v59 z54, ownR [] (intE .i64) 3 v24 ([5, 200] : List Int)]) 0))) (hf227.adv (x233.trans (Hp.eraseA (σ := [ownR [] (intE .i64) 3 v230 ([1, 1000001] : List Int), ownR [] (intE .i64) 3 v215 z210, ownR [] (intE .i64) 3 v180 ([1] : List Int), rowR 25 b141 [Value.int .i64 2, v134, v135, Value.int .i64 50], ownR [] TreeE 59 v135 (([(Tree.mk 500 ([(Node.mk 1 50 1 2 0), (Node.mk (-1) 0 0 0 8), (Node.mk (-1) 0 0 0 (-40))] : List Node))] : List Tree).set (Int.toNat 0) (Tree.mk 500 l162)), ownR [] (intE .i64) 3 v59 z54, ownR [] (intE .i64) 3 v24 ([5, 200] : List Int)]) 0))) r228 hf234 hz239).mono ?_
     rintro _ w240 ⟨v242, v244, rfl, hf243, hf245, r246, e241⟩
     refine ⟨_, rfl, ?_⟩
     have hI247 := hI235.ext e241
     refine s_mv rfl rfl ?_
     refine s_xt rfl rfl rfl ?_
     refine s_xt rfl rfl rfl ?_
     refine s_xt rfl rfl rfl ?_
     refine s_as rfl rfl ?_
     refine Reg.nil ?_
     refine cw_seq (cw_regF ?_)
     obtain ⟨z248, hz249, h⟩ := bnd h
     refine s_call rfl Try.call30 rfl ?_
     refine (C_law06_model hI247.mlt hz249).mono ?_
     rintro _ w250 ⟨v253, v255, rfl, r252, hf254, hf256, r257, e251⟩
     refine ⟨_, rfl, ?_⟩
     have hI258 := hI247.ext e251
     obtain ⟨z259, hz260, h⟩ := bnd h
     refine s_call rfl Try.call29 rfl ?_
     refine (C_law06_span hI258.mlt (by decide) (by decide) hz260).mono ?_
     rintro _ w261 ⟨rfl, r263, r264, e262⟩
     refine ⟨_, rfl, ?_⟩
     have hI265 := hI258.ext e262
     obtain ⟨z266, hz267, h⟩ := bnd h
     refine s_call rfl Try.call29 rfl ?_
     refine (C_law06_span hI265.mlt (by decide) (by decide) hz267).mono ?_
     rintro _ w268 ⟨rfl, r270, r271, e269⟩
     refine ⟨_, rfl, ?_⟩
     have hI272 := hI265.ext e269
     refine y_bs (E := SpanE) (xs := [z259, z266]) sl43 hI272 rfl rfl (Cls.cons rfl (Cls.cons rfl Cls.nil)) (Chs.cons ((SpanE_R (x := z259)).2 ⟨rfl, r263, r264⟩) (Chs.cons ((SpanE_R (x := z266)).2 ⟨rfl, r270, r271⟩) Chs.nil)) rfl rfl ?_
     intro v273 w274 hI275 x276
     obtain ⟨⟨z277, z278⟩, hz279, h⟩ := bnd h
     refine s_call rfl Try.call22 rfl ?_
     refine (C_score_Between (m := z248) (hI275.sel [1, 2, 3, 4, 5, 6] rfl).mlt r252 ((hf254.adv ((Adv.of_ext e262).trans ((Adv.of_ext e269).trans x276))).adv (Hp.selA (σ := [ownR [] SpanE 45 v273 ([z259, z266] : List Span), ownR [] (intE .i64) 3 v215 z210, ownR [] (intE .i64) 3 v180 ([1] : List Int), rowR 25 b141 [Value.int .i64 2, v134, v135, Value.int .i64 50], ownR [] TreeE 59 v135 (([(Tree.mk 500 ([(Node.mk 1 50 1 2 0), (Node.mk (-1) 0 0 0 8), (Node.mk (-1) 0 0 0 (-40))] : List Node))] : List Tree).set (Int.toNat 0) (Tree.mk 500 l162)), ownR [] (intE .i64) 3 v59 z54, ownR [] (intE .i64) 3 v24 ([5, 200] : List Int)]) [1, 2, 3, 4, 5, 6])) ((hf256.adv ((Adv.of_ext e262).trans ((Adv.of_ext e269).trans x276))).adv (Hp.selA (σ := [ownR [] SpanE 45 v273 ([z259, z266] : List Span), ownR [] (intE .i64) 3 v215 z210, ownR [] (intE .i64) 3 v180 ([1] : List Int), rowR 25 b141 [Value.int .i64 2, v134, v135, Value.int .i64 50], ownR [] TreeE 59 v135 (([(Tree.mk 500 ([(Node.mk 1 50 1 2 0), (Node.mk (-1) 0 0 0 8), (Node.mk (-1) 0 0 0 (-40))] : List Node))] : List Tree).set (Int.toNat 0) (Tree.mk 500 l162)), ownR [] (intE .i64) 3 v59 z54, ownR [] (intE .i64) 3 v24 ([5, 200] : List Int)]) [1, 2, 3, 4, 5, 6])) r257 (hI275.lendRd [1, 2, 3, 4, 5, 6] 0 rfl rfl) hz279).mono ?_
     rintro _ w280 ⟨rfl, r282, r283, r284, e281⟩
     refine ⟨_, rfl, ?_⟩
     have hI285 := hI275.ext e281
     refine s_mv rfl rfl ?_
     refine s_xt rfl rfl rfl ?_
     refine s_xt rfl rfl rfl ?_
     refine y_al hI285 Try.zeroValue45 rfl rfl ?_
     intro b286 w287 hI288 x289
     refine y_st 0 hI288 rfl rfl rfl rfl Try.sizeOf45 rfl rfl (one1 rfl (one1 rfl one0)) ?_
     intro w290 hI291 x292
     have hC294 := hI291.freezeRow 0 rfl
     have hI293 := hI291.erase 0
     refine s_as rfl rfl ?_
     refine Reg.nil ?_
     refine cw_seq (cw_regF ?_)
     refine s_lda rfl (hI293.row 3 rfl).rd.cells Try.isAgg25 rfl Try.sizeOf25 rfl ?_
     obtain ⟨⟨z295, z296⟩, hz297, h⟩ := bnd h
     refine s_call rfl Try.call22 rfl ?_
     refine (C_score_Between (m := (Model.mk 2 ([(Card.mk 1000 20 ([(Scale.mk ([10, 20] : List Int) ([0, 15, 30] : List Int) 5), (Scale.mk ([100] : List Int) ([25, (-10)] : List Int) 0)] : List Scale))] : List Card) (([(Tree.mk 500 ([(Node.mk 1 50 1 2 0), (Node.mk (-1) 0 0 0 8), (Node.mk (-1) 0 0 0 (-40))] : List Node))] : List Tree).set (Int.toNat 0) (Tree.mk 500 l162)) 50)) (hI293.sel [0, 1, 2, 3, 5, 6] rfl).mlt (show InK .i64 (2) by decide) ((hc138.adv (x144.trans (x147.trans (x165.trans ((Hp.eraseA (σ := [rowR 25 b141 [Value.int .i64 2, v134, v135, Value.int .i64 50], ownR [] (openE TreeE) 59 v135 (opn ([(Tree.mk 500 ([(Node.mk 1 50 1 2 0), (Node.mk (-1) 0 0 0 8), (Node.mk (-1) 0 0 0 (-40))] : List Node))] : List Tree) 0 [Value.int .i64 500, v136]), ownR [] NodeE 62 v136 l162, ownR [] (intE .i64) 3 v59 z54, ownR [] (intE .i64) 3 v24 ([5, 200] : List Int)]) 2).trans ((hI167.shutA 1 (E := TreeE) (z := (Tree.mk 500 l162)) rfl).trans ((Adv.of_ext e172).trans (x183.trans ((Adv.of_ext e189).trans ((Adv.of_ext e196).trans (x207.trans ((Hp.eraseA (σ := [ownR [] (intE .i64) 3 v204 ([1, (-2)] : List Int), ownR [] (intE .i64) 3 v180 ([1] : List Int), rowR 25 b141 [Value.int .i64 2, v134, v135, Value.int .i64 50], ownR [] TreeE 59 v135 (([(Tree.mk 500 ([(Node.mk 1 50 1 2 0), (Node.mk (-1) 0 0 0 8), (Node.mk (-1) 0 0 0 (-40))] : List Node))] : List Tree).set (Int.toNat 0) (Tree.mk 500 l162)), ownR [] (intE .i64) 3 v59 z54, ownR [] (intE .i64) 3 v24 ([5, 200] : List Int)]) 0).trans ((hI209.addOwnA e214 hf216).trans ((Adv.of_ext e222).trans (x233.trans ((Hp.eraseA (σ := [ownR [] (intE .i64) 3 v230 ([1, 1000001] : List Int), ownR [] (intE .i64) 3 v215 z210, ownR [] (intE .i64) 3 v180 ([1] : List Int), rowR 25 b141 [Value.int .i64 2, v134, v135, Value.int .i64 50], ownR [] TreeE 59 v135 (([(Tree.mk 500 ([(Node.mk 1 50 1 2 0), (Node.mk (-1) 0 0 0 8), (Node.mk (-1) 0 0 0 (-40))] : List Node))] : List Tree).set (Int.toNat 0) (Tree.mk 500 l162)), ownR [] (intE .i64) 3 v59 z54, ownR [] (intE .i64) 3 v24 ([5, 200] : List Int)]) 0).trans ((Adv.of_ext e241).trans ((Adv.of_ext e251).trans ((Adv.of_ext e262).trans ((Adv.of_ext e269).trans (x276.trans ((Adv.of_ext e281).trans (x289.trans (x292.trans (Hp.eraseA (σ := [rowR 45 b286 [Value.int .i64 z277.lo, Value.int .i64 z277.hi], ownR [] SpanE 45 v273 ([z259, z266] : List Span), ownR [] (intE .i64) 3 v215 z210, ownR [] (intE .i64) 3 v180 ([1] : List Int), rowR 25 b141 [Value.int .i64 2, v134, v135, Value.int .i64 50], ownR [] TreeE 59 v135 (([(Tree.mk 500 ([(Node.mk 1 50 1 2 0), (Node.mk (-1) 0 0 0 8), (Node.mk (-1) 0 0 0 (-40))] : List Node))] : List Tree).set (Int.toNat 0) (Tree.mk 500 l162)), ownR [] (intE .i64) 3 v59 z54, ownR [] (intE .i64) 3 v24 ([5, 200] : List Int)]) 0))))))))))))))))))))))))).adv (Hp.selA (σ := [ownR [] SpanE 45 v273 ([z259, z266] : List Span), ownR [] (intE .i64) 3 v215 z210, ownR [] (intE .i64) 3 v180 ([1] : List Int), rowR 25 b141 [Value.int .i64 2, v134, v135, Value.int .i64 50], ownR [] TreeE 59 v135 (([(Tree.mk 500 ([(Node.mk 1 50 1 2 0), (Node.mk (-1) 0 0 0 8), (Node.mk (-1) 0 0 0 (-40))] : List Node))] : List Tree).set (Int.toNat 0) (Tree.mk 500 l162)), ownR [] (intE .i64) 3 v59 z54, ownR [] (intE .i64) 3 v24 ([5, 200] : List Int)]) [0, 1, 2, 3, 5, 6])) (hI293.lendRd [0, 1, 2, 3, 5, 6] 4 rfl rfl) (show InK .i64 (50) by decide) (RdS.nil _ _ _) hz297).mono ?_
     rintro _ w298 ⟨rfl, r300, r301, r302, e299⟩
     refine ⟨_, rfl, ?_⟩
     have hI303 := hI293.ext e299
     refine s_mv rfl rfl ?_
     refine s_xt rfl rfl rfl ?_
     refine s_xt rfl rfl rfl ?_
     refine y_al hI303 Try.zeroValue45 rfl rfl ?_
     intro b304 w305 hI306 x307
     refine y_st 0 hI306 rfl rfl rfl rfl Try.sizeOf45 rfl rfl (one1 rfl (one1 rfl one0)) ?_
     intro w308 hI309 x310
     have hC312 := hI309.freezeRow 0 rfl
     have hI311 := hI309.erase 0
     refine s_as rfl rfl ?_
     refine Reg.nil ?_
     refine cw_seq (cw_regF ?_)
     refine s_bd [(0, 1), (1, 1), (2, 1), (3, 1)] Try.zeroValue25 rfl Try.underlying25 (fun _ => by simp [Try.sizeOf22, Try.sizeOf23, Try.sizeOf3]) rfl (Cls.cons rfl (Cls.nil)) rfl rfl ?_
     refine y_bs (E := (intE .i64)) (xs := [4]) sl26 hI311 rfl rfl (Cls.cons rfl Cls.nil) (Chs.cons ⟨rfl, (by decide)⟩ Chs.nil) rfl rfl ?_
     intro v313 w314 hI315 x316
     have hf317 := hI315.freeze 0 rfl
     have hI318 := hI315.erase 0
     obtain ⟨⟨z319, z320, z321⟩, hz322, h⟩ := bnd h
     refine s_call rfl Try.call28 rfl ?_
     refine (C_score_Reasons (m := (Model.mk 1 [] [] 0)) hI318.mlt (by decide) (RdS.nil _ _ _) (RdS.nil _ _ _) (by decide) hf317 hz322).mono ?_
     rintro _ w323 ⟨v325, v327, rfl, hf326, hf328, r329, e324⟩
     refine ⟨_, rfl, ?_⟩
     have hI330 := hI318.ext e324
     refine s_mv rfl rfl ?_
     refine s_xt rfl rfl rfl ?_
     refine s_xt rfl rfl rfl ?_
     refine s_xt rfl rfl rfl ?_
     refine s_as rfl rfl ?_
     refine s_as rfl rfl ?_
     refine s_as rfl rfl ?_
     refine Reg.nil ?_
     obtain ⟨j331, h332, h⟩ := bnd h
     refine cw_sub (L := [(3, _), (5, _), (8, _), (9, _), (11, _), (13, _), (16, _)]) (Sub.cons rfl (Sub.cons rfl (Sub.cons rfl (Sub.cons rfl (Sub.cons rfl (Sub.cons rfl (Sub.cons rfl (Sub.nil _)))))))) ?_
     refine cw_seqD 7 (ι := Bool) (fun x333 => [(0, Value.bool x333)]) (fun x333 => fun w334 => Hp w [] M [ownR [] SpanE 45 v273 ([z259, z266] : List Span), ownR [] (intE .i64) 3 v215 z210, ownR [] (intE .i64) 3 v180 ([1] : List Int), rowR 25 b141 [Value.int .i64 2, v134, v135, Value.int .i64 50], ownR [] TreeE 59 v135 (([(Tree.mk 500 ([(Node.mk 1 50 1 2 0), (Node.mk (-1) 0 0 0 8), (Node.mk (-1) 0 0 0 (-40))] : List Node))] : List Tree).set (Int.toNat 0) (Tree.mk 500 l162)), ownR [] (intE .i64) 3 v59 z54, ownR [] (intE .i64) 3 v24 ([5, 200] : List Int)] w334 ∧ Adv (mm [ownR [] SpanE 45 v273 ([z259, z266] : List Span), ownR [] (intE .i64) 3 v215 z210, ownR [] (intE .i64) 3 v180 ([1] : List Int), rowR 25 b141 [Value.int .i64 2, v134, v135, Value.int .i64 50], ownR [] TreeE 59 v135 (([(Tree.mk 500 ([(Node.mk 1 50 1 2 0), (Node.mk (-1) 0 0 0 8), (Node.mk (-1) 0 0 0 (-40))] : List Node))] : List Tree).set (Int.toNat 0) (Tree.mk 500 l162)), ownR [] (intE .i64) 3 v59 z54, ownR [] (intE .i64) 3 v24 ([5, 200] : List Int)] M) (mm [ownR [] SpanE 45 v273 ([z259, z266] : List Span), ownR [] (intE .i64) 3 v215 z210, ownR [] (intE .i64) 3 v180 ([1] : List Int), rowR 25 b141 [Value.int .i64 2, v134, v135, Value.int .i64 50], ownR [] TreeE 59 v135 (([(Tree.mk 500 ([(Node.mk 1 50 1 2 0), (Node.mk (-1) 0 0 0 8), (Node.mk (-1) 0 0 0 (-40))] : List Node))] : List Tree).set (Int.toNat 0) (Tree.mk 500 l162)), ownR [] (intE .i64) 3 v59 z54, ownR [] (intE .i64) 3 v24 ([5, 200] : List Int)] M) w323 w334 ∧ x333 = j331) ?_ ?_
     ·skip
      refine cw_regF ?_
      refine s_lda rfl (hI330.row 3 rfl).rd.cells Try.isAgg25 rfl Try.sizeOf25 rfl ?_
      obtain ⟨z337, hz338, h332⟩ := bnd h332
      refine s_call rfl Try.call18 rfl ?_
      refine (C_score_Check (m := (Model.mk 2 ([(Card.mk 1000 20 ([(Scale.mk ([10, 20] : List Int) ([0, 15, 30] : List Int) 5), (Scale.mk ([100] : List Int) ([25, (-10)] : List Int) 0)] : List Scale))] : List Card) (([(Tree.mk 500 ([(Node.mk 1 50 1 2 0), (Node.mk (-1) 0 0 0 8), (Node.mk (-1) 0 0 0 (-40))] : List Node))] : List Tree).set (Int.toNat 0) (Tree.mk 500 l162)) 50)) (hI330.sel [0, 1, 2, 3, 5, 6] rfl).mlt (show InK .i64 (2) by decide) ((hc138.adv (x144.trans (x147.trans (x165.trans ((Hp.eraseA (σ := [rowR 25 b141 [Value.int .i64 2, v134, v135, Value.int .i64 50], ownR [] (openE TreeE) 59 v135 (opn ([(Tree.mk 500 ([(Node.mk 1 50 1 2 0), (Node.mk (-1) 0 0 0 8), (Node.mk (-1) 0 0 0 (-40))] : List Node))] : List Tree) 0 [Value.int .i64 500, v136]), ownR [] NodeE 62 v136 l162, ownR [] (intE .i64) 3 v59 z54, ownR [] (intE .i64) 3 v24 ([5, 200] : List Int)]) 2).trans ((hI167.shutA 1 (E := TreeE) (z := (Tree.mk 500 l162)) rfl).trans ((Adv.of_ext e172).trans (x183.trans ((Adv.of_ext e189).trans ((Adv.of_ext e196).trans (x207.trans ((Hp.eraseA (σ := [ownR [] (intE .i64) 3 v204 ([1, (-2)] : List Int), ownR [] (intE .i64) 3 v180 ([1] : List Int), rowR 25 b141 [Value.int .i64 2, v134, v135, Value.int .i64 50], ownR [] TreeE 59 v135 (([(Tree.mk 500 ([(Node.mk 1 50 1 2 0), (Node.mk (-1) 0 0 0 8), (Node.mk (-1) 0 0 0 (-40))] : List Node))] : List Tree).set (Int.toNat 0) (Tree.mk 500 l162)), ownR [] (intE .i64) 3 v59 z54, ownR [] (intE .i64) 3 v24 ([5, 200] : List Int)]) 0).trans ((hI209.addOwnA e214 hf216).trans ((Adv.of_ext e222).trans (x233.trans ((Hp.eraseA (σ := [ownR [] (intE .i64) 3 v230 ([1, 1000001] : List Int), ownR [] (intE .i64) 3 v215 z210, ownR [] (intE .i64) 3 v180 ([1] : List Int), rowR 25 b141 [Value.int .i64 2, v134, v135, Value.int .i64 50], ownR [] TreeE 59 v135 (([(Tree.mk 500 ([(Node.mk 1 50 1 2 0), (Node.mk (-1) 0 0 0 8), (Node.mk (-1) 0 0 0 (-40))] : List Node))] : List Tree).set (Int.toNat 0) (Tree.mk 500 l162)), ownR [] (intE .i64) 3 v59 z54, ownR [] (intE .i64) 3 v24 ([5, 200] : List Int)]) 0).trans ((Adv.of_ext e241).trans ((Adv.of_ext e251).trans ((Adv.of_ext e262).trans ((Adv.of_ext e269).trans (x276.trans ((Adv.of_ext e281).trans (x289.trans (x292.trans ((Hp.eraseA (σ := [rowR 45 b286 [Value.int .i64 z277.lo, Value.int .i64 z277.hi], ownR [] SpanE 45 v273 ([z259, z266] : List Span), ownR [] (intE .i64) 3 v215 z210, ownR [] (intE .i64) 3 v180 ([1] : List Int), rowR 25 b141 [Value.int .i64 2, v134, v135, Value.int .i64 50], ownR [] TreeE 59 v135 (([(Tree.mk 500 ([(Node.mk 1 50 1 2 0), (Node.mk (-1) 0 0 0 8), (Node.mk (-1) 0 0 0 (-40))] : List Node))] : List Tree).set (Int.toNat 0) (Tree.mk 500 l162)), ownR [] (intE .i64) 3 v59 z54, ownR [] (intE .i64) 3 v24 ([5, 200] : List Int)]) 0).trans ((Adv.of_ext e299).trans (x307.trans (x310.trans ((Hp.eraseA (σ := [rowR 45 b304 [Value.int .i64 z295.lo, Value.int .i64 z295.hi], ownR [] SpanE 45 v273 ([z259, z266] : List Span), ownR [] (intE .i64) 3 v215 z210, ownR [] (intE .i64) 3 v180 ([1] : List Int), rowR 25 b141 [Value.int .i64 2, v134, v135, Value.int .i64 50], ownR [] TreeE 59 v135 (([(Tree.mk 500 ([(Node.mk 1 50 1 2 0), (Node.mk (-1) 0 0 0 8), (Node.mk (-1) 0 0 0 (-40))] : List Node))] : List Tree).set (Int.toNat 0) (Tree.mk 500 l162)), ownR [] (intE .i64) 3 v59 z54, ownR [] (intE .i64) 3 v24 ([5, 200] : List Int)]) 0).trans (x316.trans ((Hp.eraseA (σ := [ownR [] (intE .i64) 3 v313 ([4] : List Int), ownR [] SpanE 45 v273 ([z259, z266] : List Span), ownR [] (intE .i64) 3 v215 z210, ownR [] (intE .i64) 3 v180 ([1] : List Int), rowR 25 b141 [Value.int .i64 2, v134, v135, Value.int .i64 50], ownR [] TreeE 59 v135 (([(Tree.mk 500 ([(Node.mk 1 50 1 2 0), (Node.mk (-1) 0 0 0 8), (Node.mk (-1) 0 0 0 (-40))] : List Node))] : List Tree).set (Int.toNat 0) (Tree.mk 500 l162)), ownR [] (intE .i64) 3 v59 z54, ownR [] (intE .i64) 3 v24 ([5, 200] : List Int)]) 0).trans (Adv.of_ext e324)))))))))))))))))))))))))))))))).adv (Hp.selA (σ := [ownR [] SpanE 45 v273 ([z259, z266] : List Span), ownR [] (intE .i64) 3 v215 z210, ownR [] (intE .i64) 3 v180 ([1] : List Int), rowR 25 b141 [Value.int .i64 2, v134, v135, Value.int .i64 50], ownR [] TreeE 59 v135 (([(Tree.mk 500 ([(Node.mk 1 50 1 2 0), (Node.mk (-1) 0 0 0 8), (Node.mk (-1) 0 0 0 (-40))] : List Node))] : List Tree).set (Int.toNat 0) (Tree.mk 500 l162)), ownR [] (intE .i64) 3 v59 z54, ownR [] (intE .i64) 3 v24 ([5, 200] : List Int)]) [0, 1, 2, 3, 5, 6])) (hI330.lendRd [0, 1, 2, 3, 5, 6] 4 rfl rfl) (show InK .i64 (50) by decide) hz338).mono ?_
      rintro _ w339 ⟨rfl, r341, e340⟩
      refine ⟨_, rfl, ?_⟩
      have hI342 := hI330.ext e340
      refine s_eql rfl rfl rfl ?_
      refine s_mv rfl rfl ?_
      refine Reg.gsplit (t := 127) rfl (fun hg343 => ?_) (fun hg343 => ?_)
      ·replace h332 := cdT hg343 h332
       refine Reg.take rfl rfl ?_
       refine s_mv rfl rfl ?_
       refine Reg.take rfl rfl ?_
       refine s_eql rfl rfl rfl ?_
       refine s_pkT rfl rfl rfl ?_
       refine s_mv rfl rfl ?_
       refine Reg.gsplit (t := 131) rfl (fun hg344 => ?_) (fun hg344 => ?_)
       ·replace h332 := cdT hg344 h332
        refine Reg.take rfl rfl ?_
        refine s_mv rfl rfl ?_
        refine Reg.take rfl rfl ?_
        refine s_eql rfl rfl rfl ?_
        refine s_pkT rfl rfl rfl ?_
        refine s_mv rfl rfl ?_
        refine Reg.gsplit (t := 135) rfl (fun hg345 => ?_) (fun hg345 => ?_)
        ·replace h332 := cdT hg345 h332
         refine Reg.take rfl rfl ?_
         refine s_mv rfl rfl ?_
         refine Reg.take rfl rfl ?_
         refine s_eql rfl rfl rfl ?_
         refine s_pkT rfl rfl rfl ?_
         refine s_mv rfl rfl ?_
         refine Reg.gsplit (t := 139) rfl (fun hg346 => ?_) (fun hg346 => ?_)
         ·replace h332 := cdT hg346 h332
          refine Reg.take rfl rfl ?_
          refine s_mv rfl rfl ?_
          refine Reg.take rfl rfl ?_
          refine s_eql rfl rfl rfl ?_
          refine s_pkT rfl rfl rfl ?_
          refine s_mv rfl rfl ?_
          refine Reg.gsplit (t := 143) rfl (fun hg347 => ?_) (fun hg347 => ?_)
          ·replace h332 := cdT hg347 h332
           refine Reg.take rfl rfl ?_
           refine s_mv rfl rfl ?_
           refine Reg.take rfl rfl ?_
           refine s_eql rfl rfl rfl ?_
           refine s_pkT rfl rfl rfl ?_
           refine s_mv rfl rfl ?_
           refine Reg.gsplit (t := 147) rfl (fun hg348 => ?_) (fun hg348 => ?_)
           ·replace h332 := cdT hg348 h332
            refine Reg.take rfl rfl ?_
            refine s_mv rfl rfl ?_
            refine Reg.take rfl rfl ?_
            refine s_eql rfl rfl rfl ?_
            refine s_pkT rfl rfl rfl ?_
            refine s_as rfl rfl ?_
            refine Reg.nil ?_
            obtain rfl := Option.some.inj h332
            refine ⟨rfl, decide (z321 = 6), ⟨hI342, (Adv.of_ext e340), rfl⟩, Sub.cons rfl (Sub.nil _)⟩
           ·replace h332 := cdF hg348 h332
            refine Reg.pass rfl rfl rfl rfl ?_
            refine Reg.pass rfl rfl rfl rfl ?_
            refine s_pkF rfl rfl rfl ?_
            refine s_as rfl rfl ?_
            refine Reg.nil ?_
            obtain rfl := Option.some.inj h332
            refine ⟨rfl, false, ⟨hI342, (Adv.of_ext e340), rfl⟩, Sub.cons rfl (Sub.nil _)⟩
          ·replace h332 := cdF hg347 h332
           refine Reg.pass rfl rfl rfl rfl ?_
           refine Reg.pass rfl rfl rfl rfl ?_
           refine s_pkF rfl rfl rfl ?_
           refine s_mv rfl rfl ?_
           refine Reg.pass rfl rfl rfl rfl ?_
           refine Reg.pass rfl rfl rfl rfl ?_
           refine s_pkF rfl rfl rfl ?_
           refine s_as rfl rfl ?_
           refine Reg.nil ?_
           obtain rfl := Option.some.inj h332
           refine ⟨rfl, false, ⟨hI342, (Adv.of_ext e340), rfl⟩, Sub.cons rfl (Sub.nil _)⟩
         ·replace h332 := cdF hg346 h332
          refine Reg.pass rfl rfl rfl rfl ?_
          refine Reg.pass rfl rfl rfl rfl ?_
          refine s_pkF rfl rfl rfl ?_
          refine s_mv rfl rfl ?_
          refine Reg.pass rfl rfl rfl rfl ?_
          refine Reg.pass rfl rfl rfl rfl ?_
          refine s_pkF rfl rfl rfl ?_
          refine s_mv rfl rfl ?_
          refine Reg.pass rfl rfl rfl rfl ?_
          refine Reg.pass rfl rfl rfl rfl ?_
          refine s_pkF rfl rfl rfl ?_
          refine s_as rfl rfl ?_
          refine Reg.nil ?_
          obtain rfl := Option.some.inj h332
          refine ⟨rfl, false, ⟨hI342, (Adv.of_ext e340), rfl⟩, Sub.cons rfl (Sub.nil _)⟩
        ·replace h332 := cdF hg345 h332
         refine Reg.pass rfl rfl rfl rfl ?_
         refine Reg.pass rfl rfl rfl rfl ?_
         refine s_pkF rfl rfl rfl ?_
         refine s_mv rfl rfl ?_
         refine Reg.pass rfl rfl rfl rfl ?_
         refine Reg.pass rfl rfl rfl rfl ?_
         refine s_pkF rfl rfl rfl ?_
         refine s_mv rfl rfl ?_
         refine Reg.pass rfl rfl rfl rfl ?_
         refine Reg.pass rfl rfl rfl rfl ?_
         refine s_pkF rfl rfl rfl ?_
         refine s_mv rfl rfl ?_
         refine Reg.pass rfl rfl rfl rfl ?_
         refine Reg.pass rfl rfl rfl rfl ?_
         refine s_pkF rfl rfl rfl ?_
         refine s_as rfl rfl ?_
         refine Reg.nil ?_
         obtain rfl := Option.some.inj h332
         refine ⟨rfl, false, ⟨hI342, (Adv.of_ext e340), rfl⟩, Sub.cons rfl (Sub.nil _)⟩
       ·replace h332 := cdF hg344 h332
        refine Reg.pass rfl rfl rfl rfl ?_
        refine Reg.pass rfl rfl rfl rfl ?_
        refine s_pkF rfl rfl rfl ?_
        refine s_mv rfl rfl ?_
        refine Reg.pass rfl rfl rfl rfl ?_
        refine Reg.pass rfl rfl rfl rfl ?_
        refine s_pkF rfl rfl rfl ?_
        refine s_mv rfl rfl ?_
        refine Reg.pass rfl rfl rfl rfl ?_
        refine Reg.pass rfl rfl rfl rfl ?_
        refine s_pkF rfl rfl rfl ?_
        refine s_mv rfl rfl ?_
        refine Reg.pass rfl rfl rfl rfl ?_
        refine Reg.pass rfl rfl rfl rfl ?_
        refine s_pkF rfl rfl rfl ?_
        refine s_mv rfl rfl ?_
        refine Reg.pass rfl rfl rfl rfl ?_
        refine Reg.pass rfl rfl rfl rfl ?_
        refine s_pkF rfl rfl rfl ?_
        refine s_as rfl rfl ?_
        refine Reg.nil ?_
        obtain rfl := Option.some.inj h332
        refine ⟨rfl, false, ⟨hI342, (Adv.of_ext e340), rfl⟩, Sub.cons rfl (Sub.nil _)⟩
      ·replace h332 := cdF hg343 h332
       refine Reg.pass rfl rfl rfl rfl ?_
       refine Reg.pass rfl rfl rfl rfl ?_
       refine s_pkF rfl rfl rfl ?_
       refine s_mv rfl rfl ?_
       refine Reg.pass rfl rfl rfl rfl ?_
       refine Reg.pass rfl rfl rfl rfl ?_
       refine s_pkF rfl rfl rfl ?_
       refine s_mv rfl rfl ?_
       refine Reg.pass rfl rfl rfl rfl ?_
       refine Reg.pass rfl rfl rfl rfl ?_
       refine s_pkF rfl rfl rfl ?_
       refine s_mv rfl rfl ?_
       refine Reg.pass rfl rfl rfl rfl ?_
       refine Reg.pass rfl rfl rfl rfl ?_
       refine s_pkF rfl rfl rfl ?_
       refine s_mv rfl rfl ?_
       refine Reg.pass rfl rfl rfl rfl ?_
       refine Reg.pass rfl rfl rfl rfl ?_
       refine s_pkF rfl rfl rfl ?_
       refine s_mv rfl rfl ?_
       refine Reg.pass rfl rfl rfl rfl ?_
       refine Reg.pass rfl rfl rfl rfl ?_
       refine s_pkF rfl rfl rfl ?_
       refine s_as rfl rfl ?_
       refine Reg.nil ?_
       obtain rfl := Option.some.inj h332
       refine ⟨rfl, false, ⟨hI342, (Adv.of_ext e340), rfl⟩, Sub.cons rfl (Sub.nil _)⟩
     ·skip
      rintro x333 w334 ⟨hI335, hA336, rfl⟩
      refine cw_ret ?_
      obtain rfl := Option.some.inj h
      refine fin1 Try.results11 rfl ?_
      exact ⟨rfl, hI335.kp⟩
end Go.Proofs.Ytecmlmngcnionaa
namespace Go.Proofs.Ytecmlmngcnionaa
open Go Go.Sx
namespace S
theorem sets1 : setsS 1 = [[0]] := by
  have h : setsAll 1 = [[0]] := by decide
  unfold setsS
  rw [h]
  refine (sort_is (List.Perm.refl _) ?_).symm
  intro i j a b hij ha hb
  have hj := get_lt hb
  have hj1 : j < 1 := hj
  omega
def badM : Model := Model.mk 2 [Card.mk 1000 20 [Scale.mk [10, 20] [0, 15, 30] 5, Scale.mk [100] [25, -10] 0]] [Tree.mk 500 [Node.mk 1 50 0 2 0, Node.mk (-1) 0 0 0 8, Node.mk (-1) 0 0 0 (-40)]] 50
theorem bad_small : Small badM := small_of (by decide +kernel)
theorem ex1 : P.score_Score mdl [5, 200] = some (-10000, false, 0) := by
  rw [p_SScore mdl _ mdl_small (by decide)]
  decide +kernel
theorem ex2 : P.score_Points mdl [12, 30] = some ([60, 8], 0) := by
  rw [p_SPoints mdl _ mdl_small (by decide)]
  decide +kernel
theorem ex3 : P.score_Reasons mdl [12, 30] = some ([0], [0], 0) := by
  rw [p_SReasons mdl _ mdl_small (by decide)]
  unfold reasonsS
  rw [show ([12, 30] : List Int).length = 2 from rfl, sets2]
  decide +kernel
theorem ex4 : P.score_Score mdl [1] = some (0, false, 61) := by
  rw [p_SScore mdl _ mdl_small (by decide)]
  decide +kernel
theorem ex5 : P.score_Points mdl [1, -2] = some ([], 61) := by
  rw [p_SPoints mdl _ mdl_small (by decide)]
  decide +kernel
theorem ex6 : P.score_Reasons mdl [1, 1000001] = some ([], [], 61) := by
  rw [p_SReasons mdl _ mdl_small (by decide)]
  unfold reasonsS
  rw [if_neg (by decide +kernel)]
  decide +kernel
theorem ex7 : P.score_Between mdl [Span.mk 0 1, Span.mk 2 1] = some (Span.mk 0 0, 61) := by
  unfold P.score_Between
  rw [if_pos ⟨mdl_small, by decide⟩]
  decide +kernel
theorem ex8 : P.score_Between badM [] = some (Span.mk 0 0, 60) := by
  unfold P.score_Between
  rw [if_pos ⟨bad_small, by decide⟩]
  decide +kernel
theorem ex9 : P.score_Reasons (Model.mk 1 [] [] 0) [4] = some ([], [], 6) := by
  rw [p_SReasons _ _ (small_of (by decide +kernel)) (by decide)]
  unfold reasonsS
  rw [show ([4] : List Int).length = 1 from rfl, sets1]
  decide +kernel
theorem ex10 : P.score_Check badM = some 60 := by
  rw [p_Check badM bad_small]
  decide +kernel
theorem p_ScoreExamples : P.law06_ScoreExamples = some true := by
  apply Ret.yes
  unfold P.law06_ScoreExamples
  refine Ret.bind (Ret.bind (Ret.val p_alive (Ret.ok (Ret.condF rfl ?_))))
  refine Ret.bind (Ret.val p_model (Ret.bind (Ret.val ex1 ?_)))
  refine Ret.bind (Ret.val p_model (Ret.bind (Ret.val ex2 ?_)))
  refine Ret.bind (Ret.val p_model (Ret.bind (Ret.val ex3 ?_)))
  refine Ret.bind (Ret.condF rfl (Ret.condF rfl (Ret.condF rfl (Ret.condF rfl ?_))))
  refine Ret.bind (Ret.val (p_same _ _ (by decide)) (Ret.condF rfl (Ret.condF rfl ?_)))
  refine Ret.bind (Ret.val (p_same _ _ (by decide)) (Ret.condF rfl ?_))
  refine Ret.bind (Ret.val (p_same _ _ (by decide)) (Ret.ok (Ret.condF rfl ?_)))
  refine Ret.bind (Ret.val (a := Node.mk 1 50 1 2 0) rfl ?_)
  refine Ret.bind (Ret.val (a := [Node.mk 1 50 0 2 0, Node.mk (-1) 0 0 0 8, Node.mk (-1) 0 0 0 (-40)]) rfl ?_)
  refine Ret.bind (Ret.val p_model (Ret.bind (Ret.val ex4 ?_)))
  refine Ret.bind (Ret.val p_model (Ret.bind (Ret.val ex5 ?_)))
  refine Ret.bind (Ret.val p_model (Ret.bind (Ret.val ex6 ?_)))
  refine Ret.bind (Ret.val p_model (Ret.bind (Ret.val (p_span 0 1) (Ret.bind (Ret.val (p_span 2 1) (Ret.bind (Ret.val ex7 ?_)))))))
  refine Ret.bind (Ret.val ex8 ?_)
  refine Ret.bind (Ret.val ex9 ?_)
  refine Ret.bind (Ret.bind (Ret.val ex10 ?_))
  exact Ret.condT rfl (Ret.condT rfl (Ret.condT rfl (Ret.condT rfl (Ret.condT rfl (Ret.condT rfl (Ret.ok (Ret.ok rfl)))))))
end S
end Go.Proofs.Ytecmlmngcnionaa
