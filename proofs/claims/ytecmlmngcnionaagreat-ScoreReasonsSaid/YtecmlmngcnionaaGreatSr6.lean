/-
  Part 6 of the texts that the statement's proof stands on: what memory holds, how code is walked, what the functions reckon. In the order in which they build.
-/

import Derived.Test.YtecmlmngcnionaaGreatSr5
set_option linter.unusedVariables false
set_option maxRecDepth 20000
namespace Go.Proofs.YtecmlmngcnionaaGreat
open Go Go.Sx Go.RowKit
inductive I70 where
 | c83 (x : Card)
 | c84 (x : Tree)
def I70E : Enc I70 where
 n := 1
 pos := by decide
 R := fun M w cs x => match x with
  | .c83 y => ∃ ds, cs = [.iface 83 (.agg ds.toArray)] ∧ CardE.R M w ds y
  | .c84 y => ∃ ds, cs = [.iface 84 (.agg ds.toArray)] ∧ TreeE.R M w ds y
 len := fun {M w cs} {x} h => by
  cases x with
  | c83 y => obtain ⟨ds, rfl, hR⟩ := h; rfl
  | c84 y => obtain ⟨ds, rfl, hR⟩ := h; rfl
 kp := fun {M w w' cs} {x} hk h => by
  cases x with
  | c83 y => obtain ⟨ds, rfl, hR⟩ := h; exact ⟨ds, rfl, CardE.kp hk hR⟩
  | c84 y => obtain ⟨ds, rfl, hR⟩ := h; exact ⟨ds, rfl, TreeE.kp hk hR⟩
 mon := fun {M M' w cs} {x} hm h => by
  cases x with
  | c83 y => obtain ⟨ds, rfl, hR⟩ := h; exact ⟨ds, rfl, CardE.mon hm hR⟩
  | c84 y => obtain ⟨ds, rfl, hR⟩ := h; exact ⟨ds, rfl, TreeE.mon hm hR⟩
 one := fun {M w cs} {x} h u hu => by
  cases x with
  | c83 y => obtain ⟨ds, rfl, hR⟩ := h; simp at hu; subst hu; rfl
  | c84 y => obtain ⟨ds, rfl, hR⟩ := h; simp at hu; subst hu; rfl
theorem I70E_c83 {M : List Nat} {w : World} {ds : List Value} {y : Card} (h : CardE.R M w ds y) : I70E.R M w [.iface 83 (.agg ds.toArray)] (.c83 y) := ⟨ds, rfl, h⟩
theorem I70E_c84 {M : List Nat} {w : World} {ds : List Value} {y : Tree} (h : TreeE.R M w ds y) : I70E.R M w [.iface 84 (.agg ds.toArray)] (.c84 y) := ⟨ds, rfl, h⟩
theorem I70E_one {M : List Nat} {w : World} {cs : List Value} {x : I70} (h : I70E.R M w cs x) : ∃ v, cs = [v] ∧ I70E.R M w [v] x := by
 cases x with
 | c83 y => obtain ⟨ds, rfl, hR⟩ := h; exact ⟨_, rfl, ds, rfl, hR⟩
 | c84 y => obtain ⟨ds, rfl, hR⟩ := h; exact ⟨_, rfl, ds, rfl, hR⟩
@[ext] structure Works where
 model : Model
 parts : (List I70)
attribute [grind ext] Works.ext
noncomputable def P.slices_IndexFunc_51 (s : (List I70)) (f : I70 → Option Bool) : Option Int :=
 Option.bind (loopM (S := Int) (R := (Unit) ⊕ (Int)) (fun x1 => cond (decide (x1 < (s.length : Int))) (Option.bind (ixo s x1) fun y3 => Option.bind (f y3) fun z11 => cond z11 (some (.inr (.inr x1))) (Option.bind (chk .i64 (x1 + 1)) fun n17 => some (.inl n17))) (some (.inr (.inl ())))) 0) fun j18 => Sum.elim (fun _ => some (-1)) (fun r19 => some r19)  j18
theorem C_slices_IndexFunc_51 {M : List Nat} {w : World} (hM : MLt M w) {s : (List I70)} {v_s_0 : Value} (f_s_0 : RdS I70E M w v_s_0 s) {v_f : Value} {f : I70 → Option Bool} (f_f : ∀ (x0 : I70) (vx0_0 : Value) (r : Bool) (w1 : World), Kp [] w w1 → I70E.R M w1 [vx0_0] x0 → f x0 = some r → CallsV Tryz.prog v_f [vx0_0] w1 fun e w2 => e = .returned (Value.bool r) ∧ Ext w1 w2) {r0 : Int} (h : P.slices_IndexFunc_51 s f = some r0) :
  Calls Tryz.prog 51 (List.toArray [v_s_0, v_f]) w fun e w' => e = .returned (Value.int .i64 r0) ∧ InK .i64 r0 ∧ Ext w w' := by
 have hI := Hp.start (Mu := []) hM
 refine calls_cw Tryz.func51 rfl Tryz.ntmps51 rfl ?_
 refine cw_seq (cw_regF ?_)
 refine s_as rfl rfl ?_
 refine Reg.nil ?_
 refine cw_seq (cw_seq (cw_regF ?_))
 refine s_mv rfl rfl ?_
 refine s_len rfl f_s_0 Tryz.underlying46 rfl ?_
 refine s_mv rfl rfl ?_
 refine Reg.nil ?_
 obtain ⟨j1, h2, h⟩ := bnd h
 refine cw_sub (L := [(0, _), (1, _), (7, _), (8, _)]) (Sub.cons rfl (Sub.cons rfl (Sub.cons rfl (Sub.cons rfl (Sub.nil _))))) ?_
 refine cw_unitD 4 (ι := Unit) (fun _ => []) (fun _ => fun w3 => Hp w [] M [] w3 ∧ Adv (mm [] M) (mm [] M) w w3 ∧ (.inl ()) = j1) ?_ ?_
 ·skip
  refine cw_block ?_
  refine cw_sub (L := [(8, _), (0, _), (1, _), (7, _)]) (Sub.cons rfl (Sub.cons rfl (Sub.cons rfl (Sub.cons rfl (Sub.nil _))))) ?_
  refine cw_loopM 1 (ι := Int) _ (fun x6 => [(8, Value.int .i64 x6)]) (fun x6 => x6) (fun x6 => fun w8 => Hp w [] M [] w8 ∧ Adv (mm [] M) (mm [] M) w w8 ∧ InK .i64 x6) 0 h2 ⟨hI, (Adv.refl _ _), (by decide)⟩ (Sub.cons rfl (Sub.cons rfl (Sub.cons rfl (Sub.cons rfl (Sub.nil _))))) ?_
  rintro x6 w8 ⟨hI9, hA10, r7⟩ y11 h12 hR13
  refine cw_seq (cw_regF ?_)
  refine s_lss rfl rfl rfl ?_
  refine Reg.nil ?_
  refine cw_seq ?_
  refine cw_cond rfl (fun hc14 => ?_) (fun hc14 => ?_)
  ·replace h12 := cdT hc14 h12
   refine cw_skip ?_
   refine cw_seq ?_
   refine cw_block ?_
   refine cw_seq (cw_regF ?_)
   refine s_mv rfl rfl ?_
   refine s_as rfl rfl ?_
   refine Reg.nil ?_
   refine cw_seq (cw_regF ?_)
   refine s_mv rfl rfl ?_
   refine s_mv rfl rfl ?_
   refine s_mv rfl rfl ?_
   obtain ⟨y15, hy15, h12⟩ := bnd h12
   refine p_ia rfl rfl (f_s_0.adv hI9.adv) hy15 Tryz.underlying46 Tryz.sizeOf70 rfl ?_
   intro b16 o17 cs18 hR19 hC20
   obtain ⟨v21, rfl, hf22⟩ := I70E_one hR19
   refine s_ld rfl (hC20.cells.at 0 rfl) Tryz.isAgg70 rfl ?_
   obtain ⟨z23, hz23, h12⟩ := bnd h12
   refine s_callV rfl rfl rfl ?_
   refine (f_f _ _ _ _ hI9.kp hf22 hz23).mono ?_
   rintro _ w24 ⟨rfl, e25⟩
   refine ⟨_, rfl, ?_⟩
   have hI27 := hI9.ext e25
   refine Reg.nil ?_
   refine cw_cond rfl (fun hc28 => ?_) (fun hc28 => ?_)
   ·replace h12 := cdT hc28 h12
    refine cw_seq (cw_regF ?_)
    refine s_mv rfl rfl ?_
    refine s_as rfl rfl ?_
    refine Reg.nil ?_
    refine cw_ret ?_
    obtain rfl := Option.some.inj h12
    obtain rfl := hR13 _ rfl
    replace h := elimR h
    obtain rfl := Option.some.inj h
    refine fin1 Tryz.results51 rfl ?_
    exact ⟨rfl, r7, hI27.kp⟩
   ·replace h12 := cdF hc28 h12
    refine cw_skip ?_
    refine cw_regF ?_
    obtain ⟨n29, hn29, h12⟩ := bnd h12
    replace hn29 := chk_out hn29
    refine p_add rfl rfl rfl hn29 ?_
    refine s_mv rfl rfl ?_
    refine Reg.nil ?_
    obtain rfl := Option.some.inj h12
    refine ⟨rfl, n29, ⟨⟨hI27, hI27.adv, hn29.2⟩, rfl⟩, Sub.cons rfl (Sub.cons rfl (Sub.cons rfl (Sub.cons rfl (Sub.nil _))))⟩
  ·replace h12 := cdF hc14 h12
   refine cw_exit ?_
   refine exB_same ?_
   obtain rfl := Option.some.inj h12
   obtain rfl := hR13 _ rfl
   refine ⟨rfl, (), ⟨hI9, hI9.adv, rfl⟩, Sub.nil _⟩
 ·skip
  rintro _ w3 ⟨hI4, hA5, rfl⟩
  replace h := elimL h
  refine cw_seq (cw_regF ?_)
  refine s_as rfl rfl ?_
  refine Reg.nil ?_
  refine cw_ret ?_
  obtain rfl := Option.some.inj h
  refine fin1 Tryz.results51 rfl ?_
  exact ⟨rfl, (by decide), hI4.kp⟩
noncomputable def P.slices_ContainsFunc_36 (s : (List I70)) (f : I70 → Option Bool) : Option Bool :=
 Option.bind (P.slices_IndexFunc_51 s f) fun z1 => some (decide (0 ≤ z1))
theorem C_slices_ContainsFunc_36 {M : List Nat} {w : World} (hM : MLt M w) {s : (List I70)} {v_s_0 : Value} (f_s_0 : RdS I70E M w v_s_0 s) {v_f : Value} {f : I70 → Option Bool} (f_f : ∀ (x0 : I70) (vx0_0 : Value) (r : Bool) (w1 : World), Kp [] w w1 → I70E.R M w1 [vx0_0] x0 → f x0 = some r → CallsV Tryz.prog v_f [vx0_0] w1 fun e w2 => e = .returned (Value.bool r) ∧ Ext w1 w2) {r0 : Bool} (h : P.slices_ContainsFunc_36 s f = some r0) :
  Calls Tryz.prog 36 (List.toArray [v_s_0, v_f]) w fun e w' => e = .returned (Value.bool r0) ∧ Ext w w' := by
 have hI := Hp.start (Mu := []) hM
 refine calls_cw Tryz.func36 rfl Tryz.ntmps36 rfl ?_
 refine cw_seq (cw_regF ?_)
 refine s_as rfl rfl ?_
 refine Reg.nil ?_
 refine cw_seq (cw_regF ?_)
 refine s_mv rfl rfl ?_
 refine s_mv rfl rfl ?_
 obtain ⟨z1, hz2, h⟩ := bnd h
 refine s_call rfl Tryz.call51 rfl ?_
 refine (C_slices_IndexFunc_51 hI.mlt f_s_0 (fun a0 a1 r w9 e9 f0 hr => f_f a0 a1 r w9 (hI.kp.trans (Ext.kp e9)) f0 hr) hz2).mono ?_
 rintro _ w3 ⟨rfl, r5, e4⟩
 refine ⟨_, rfl, ?_⟩
 have hI6 := hI.ext e4
 refine s_geq rfl rfl rfl ?_
 refine s_as rfl rfl ?_
 refine Reg.nil ?_
 refine cw_ret ?_
 obtain rfl := Option.some.inj h
 refine fin1 Tryz.results36 rfl ?_
 exact ⟨rfl, hI6.kp⟩
noncomputable def P.M70_weight (x : I70)  : Option Int := match x with
 | .c83 y => P.score_card_weight y 
 | .c84 y => P.score_tree_weight y
theorem C_M70_weight {nm : String} (q83 : ∀ u w, (method (Tryz.prog.types.size + Made.depth) 83 u nm).run Tryz.prog w = .ok (111, u) w) (q84 : ∀ u w, (method (Tryz.prog.types.size + Made.depth) 84 u nm).run Tryz.prog w = .ok (121, u) w) {M : List Nat} {w : World} (hM : MLt M w) {v : Value} {x : I70} (hx : I70E.R M w [v] x)  {r : Int} (h : P.M70_weight x  = some r) :
  CallsI Tryz.prog v nm [] w fun e w' => e = .returned (Value.int .i64 r) ∧ InK .i64 r ∧ Ext w w' := by
 cases x with
 | c83 y =>
  obtain ⟨ds, he, hR⟩ := hx
  cases he
  obtain ⟨v2, rfl, g0, g1, g2⟩ := CardE_R.1 hR
  exact ⟨111, _, ⟨83, _, rfl, q83 _, Tryz.call111⟩, C_score_card_weight hM g0 g1 g2 h⟩
 | c84 y =>
  obtain ⟨ds, he, hR⟩ := hx
  cases he
  obtain ⟨v1, rfl, g0, g1⟩ := TreeE_R.1 hR
  exact ⟨121, _, ⟨84, _, rfl, q84 _, Tryz.call121⟩, C_score_tree_weight hM g0 g1 h⟩
noncomputable def P.M70_right (x : I70) (x0 : Int) : Option Bool := match x with
 | .c83 y => P.score_card_right y x0
 | .c84 y => P.score_tree_right y x0
theorem C_M70_right {nm : String} (q83 : ∀ u w, (method (Tryz.prog.types.size + Made.depth) 83 u nm).run Tryz.prog w = .ok (110, u) w) (q84 : ∀ u w, (method (Tryz.prog.types.size + Made.depth) 84 u nm).run Tryz.prog w = .ok (120, u) w) {M : List Nat} {w : World} (hM : MLt M w) {v : Value} {x : I70} (hx : I70E.R M w [v] x) {x0 : Int} (f_x0_0 : InK .i64 x0) {r : Bool} (h : P.M70_right x x0 = some r) :
  CallsI Tryz.prog v nm [Value.int .i64 x0] w fun e w' => e = .returned (Value.bool r) ∧ Ext w w' := by
 cases x with
 | c83 y =>
  obtain ⟨ds, he, hR⟩ := hx
  cases he
  obtain ⟨v2, rfl, g0, g1, g2⟩ := CardE_R.1 hR
  exact ⟨110, _, ⟨83, _, rfl, q83 _, Tryz.call110⟩, C_score_card_right hM g0 g1 g2 f_x0_0 h⟩
 | c84 y =>
  obtain ⟨ds, he, hR⟩ := hx
  cases he
  obtain ⟨v1, rfl, g0, g1⟩ := TreeE_R.1 hR
  exact ⟨120, _, ⟨84, _, rfl, q84 _, Tryz.call120⟩, C_score_tree_right hM g0 g1 f_x0_0 h⟩
noncomputable def P.score_open_in1 (p : I70) (m_c : Model) : Option Bool :=
 Option.bind (Option.bind (P.M70_weight p) fun z1 => Option.bind (P.score_within 0 1000 ([z1] : List Int)) fun z10 => cond (!z10) (some true) (Option.bind (P.M70_right p m_c.traits) fun z16 => some (!z16))) fun x21 => some x21
theorem C_score_open_in1 {M : List Nat} {w : World} (hM : MLt M w) {p : I70} {v_p_0 : Value} (f_p_0 : I70E.R M w [v_p_0] p) {m_c : Model} {v_m_c_1 : Value} {v_m_c_2 : Value} (f_m_c_0 : InK .i64 m_c.traits) (f_m_c_1 : RdS CardE M w v_m_c_1 m_c.cards) (f_m_c_2 : RdS TreeE M w v_m_c_2 m_c.trees) (f_m_c_3 : InK .i64 m_c.need) {b_m_c : Nat} (c_m_c : RdC M w b_m_c 0 [Value.int .i64 m_c.traits, v_m_c_1, v_m_c_2, Value.int .i64 m_c.need]) {r0 : Bool} (h : P.score_open_in1 p m_c = some r0) :
  Calls Tryz.prog 34 (List.toArray [v_p_0, Value.pointer (some ⟨b_m_c, 0, none⟩)]) w fun e w' => e = .returned (Value.bool r0) ∧ Ext w w' := by
 have hI := Hp.start (Mu := []) hM
 refine calls_cw Tryz.func34 rfl Tryz.ntmps34 rfl ?_
 refine cw_seq (cw_regF ?_)
 refine s_as rfl rfl ?_
 refine Reg.nil ?_
 obtain ⟨j1, h2, h⟩ := bnd h
 refine cw_sub (L := [(0, _), (1, _)]) (Sub.cons rfl (Sub.cons rfl (Sub.nil _))) ?_
 refine cw_seqD 2 (ι := Bool) (fun x3 => [(3, Value.bool x3)]) (fun x3 => fun w4 => Hp w [] M [] w4 ∧ Adv (mm [] M) (mm [] M) w w4 ∧ x3 = j1) ?_ ?_
 ·skip
  refine cw_regF ?_
  refine s_mv rfl rfl ?_
  obtain ⟨z7, hz7, h2⟩ := bnd h2
  refine s_invD rfl rfl rfl ?_
  refine (C_M70_weight (fun _ _ => by kernel_rfl) (fun _ _ => by kernel_rfl) hI.mlt f_p_0 hz7).mono ?_
  rintro _ w8 ⟨rfl, r10, e9⟩
  refine ⟨_, rfl, ?_⟩
  have hI11 := hI.ext e9
  refine y_bs (E := (intE .i64)) (xs := [z7]) sl26 hI11 rfl rfl (Cls.cons rfl Cls.nil) (Chs.cons ⟨rfl, r10⟩ Chs.nil) rfl rfl ?_
  intro v12 w13 hI14 x15
  obtain ⟨z16, hz17, h2⟩ := bnd h2
  refine s_call rfl Tryz.call22 rfl ?_
  refine (C_score_within (hI14.sel [] rfl).mlt (by decide) (by decide) (hI14.lendRd [] 0 rfl rfl) hz17).mono ?_
  rintro _ w18 ⟨rfl, e19⟩
  refine ⟨_, rfl, ?_⟩
  have hI20 := hI14.ext e19
  refine s_not rfl rfl ?_
  refine s_mv rfl rfl ?_
  refine Reg.gsplit (t := 9) rfl (fun hg21 => ?_) (fun hg21 => ?_)
  ·replace h2 := cdT hg21 h2
   refine Reg.pass rfl rfl rfl rfl ?_
   refine Reg.pass rfl rfl rfl rfl ?_
   refine Reg.pass rfl rfl rfl rfl ?_
   refine Reg.pass rfl rfl rfl rfl ?_
   refine Reg.pass rfl rfl rfl rfl ?_
   refine s_pkT rfl rfl rfl ?_
   refine s_as rfl rfl ?_
   refine Reg.nil ?_
   obtain rfl := Option.some.inj h2
   refine ⟨rfl, true, ⟨(hI20.sel [] rfl), (hI20.adv.trans (Hp.selA (σ := [ownR [] (intE .i64) 3 v12 ([z7] : List Int)]) [])), rfl⟩, Sub.cons rfl (Sub.nil _)⟩
  ·replace h2 := cdF hg21 h2
   refine Reg.take rfl rfl ?_
   refine s_mv rfl rfl ?_
   refine Reg.take rfl rfl ?_
   refine s_fa rfl Tryz.underlying25 rfl Tryz.sizeOf3 rfl ?_
   refine Reg.take rfl rfl ?_
   refine s_ld rfl ((c_m_c.adv hI20.adv).cells.at 0 rfl) Tryz.isAgg3 rfl ?_
   refine Reg.take rfl rfl ?_
   obtain ⟨z22, hz22, h2⟩ := bnd h2
   refine s_invD rfl rfl rfl ?_
   refine (C_M70_right (fun _ _ => by kernel_rfl) (fun _ _ => by kernel_rfl) hI20.mlt (I70E.adv f_p_0 hI20.adv) f_m_c_0 hz22).mono ?_
   rintro _ w23 ⟨rfl, e24⟩
   refine ⟨_, rfl, ?_⟩
   have hI26 := hI20.ext e24
   refine Reg.take rfl rfl ?_
   refine s_not rfl rfl ?_
   refine s_pkF rfl rfl rfl ?_
   refine s_as rfl rfl ?_
   refine Reg.nil ?_
   obtain rfl := Option.some.inj h2
   refine ⟨rfl, !z22, ⟨(hI26.sel [] rfl), (hI26.adv.trans (Hp.selA (σ := [ownR [] (intE .i64) 3 v12 ([z7] : List Int)]) [])), rfl⟩, Sub.cons rfl (Sub.nil _)⟩
 ·skip
  rintro x3 w4 ⟨hI5, hA6, rfl⟩
  refine cw_ret ?_
  obtain rfl := Option.some.inj h
  refine fin1 Tryz.results34 rfl ?_
  exact ⟨rfl, hI5.kp⟩
noncomputable def P.score_open (m : Model) : Option (Works × Int) :=
 Option.bind (loopM (S := Int × (List I70)) (R := ((List I70))) (fun (x18, x19) => cond (decide (x18 < (m.cards.length : Int))) (Option.bind (ixo m.cards x18) fun y21 => Option.bind (appo 16 x19 ([(I70.c83 (Card.mk y21.weight y21.base y21.scales))] : List I70)) fun l46 => Option.bind (chk .i64 (x18 + 1)) fun n54 => some (.inl (n54, l46))) (some (.inr x19))) (0, [])) fun x55 => Option.bind (loopM (S := Int × (List I70)) (R := ((List I70))) (fun (x56, x57) => cond (decide (x56 < (m.trees.length : Int))) (Option.bind (ixo m.trees x56) fun y59 => Option.bind (appo 16 x57 ([(I70.c84 (Tree.mk y59.weight y59.nodes))] : List I70)) fun l83 => Option.bind (chk .i64 (x56 + 1)) fun n91 => some (.inl (n91, l83))) (some (.inr x57))) (0, x55)) fun x92 => Option.bind (Option.bind (P.score_within 1 5 ([m.traits] : List Int)) fun z97 => cond (!z97) (some true) (Option.bind (P.score_counts ([m.need] : List Int)) fun z107 => cond (!z107) (some true) (cond (decide (2 < (m.cards.length : Int))) (some true) (cond (decide (2 < (m.trees.length : Int))) (some true) (Option.bind (P.slices_ContainsFunc_36 x92 (fun x0_ => P.score_open_in1 x0_ (Model.mk m.traits m.cards m.trees m.need))) fun z115 => some z115))))) fun x120 => cond x120 (some ((Works.mk (Model.mk 0 [] [] 0) []), 60)) (some ((Works.mk (Model.mk m.traits m.cards m.trees m.need) x92), 0))
theorem C_score_open {M : List Nat} {w : World} (hM : MLt M w) {m : Model} {v_m_1 : Value} {v_m_2 : Value} (f_m_0 : InK .i64 m.traits) (f_m_1 : RdS CardE M w v_m_1 m.cards) (f_m_2 : RdS TreeE M w v_m_2 m.trees) (f_m_3 : InK .i64 m.need) {r0 : Works} {r1 : Int} (h : P.score_open m = some (r0, r1)) :
  Calls Tryz.prog 21 (List.toArray [Value.agg (List.toArray [Value.int .i64 m.traits, v_m_1, v_m_2, Value.int .i64 m.need])]) w fun e w' => ∃ v0_1 : Value, ∃ v0_2 : Value, ∃ v0_4 : Value, e = .returned (Value.tuple (List.toArray [Value.agg (List.toArray [Value.int .i64 r0.model.traits, v0_1, v0_2, Value.int .i64 r0.model.need, v0_4]), Value.int .i64 r1])) ∧ InK .i64 r0.model.traits ∧ RdS CardE M w' v0_1 r0.model.cards ∧ RdS TreeE M w' v0_2 r0.model.trees ∧ InK .i64 r0.model.need ∧ RdS I70E M w' v0_4 r0.parts ∧ InK .i64 r1 ∧ Ext w w' := by
 have hI := Hp.start (Mu := []) hM
 refine calls_cw Tryz.func21 rfl Tryz.ntmps21 rfl ?_
 refine cw_seq (cw_regF ?_)
 refine y_box hI rfl rfl rfl ?_
 intro b1 w2 hI3 x4
 have hC6 := hI3.freezeRow 0 rfl
 have hI5 := hI3.erase 0
 refine y_al hI5 Tryz.zeroValue48 rfl rfl ?_
 intro b7 w8 hI9 x10
 refine s_as rfl rfl ?_
 refine Reg.nil ?_
 refine cw_seq (cw_regF ?_)
 refine s_lda rfl (hC6.adv x10).cells Tryz.isAgg25 rfl Tryz.sizeOf25 rfl ?_
 refine s_bd [(0, 4), (4, 1)] Tryz.zeroValue48 rfl Tryz.underlying48 (fun _ => by simp [Tryz.sizeOf25, Tryz.sizeOf46]) rfl (Cls.cons rfl (Cls.nil)) rfl rfl ?_
 refine y_al hI9 Tryz.zeroValue48 rfl rfl ?_
 intro b11 w12 hI13 x14
 refine y_st 0 hI13 rfl rfl rfl rfl Tryz.sizeOf48 rfl rfl (one1 rfl (one1 (RdS.oneC f_m_1) (one1 (RdS.oneC f_m_2) (one1 rfl (one1 rfl one0))))) ?_
 intro w15 hI16 x17
 refine Reg.nil ?_
 refine cw_seq (cw_seq (cw_regF ?_))
 refine s_fa rfl Tryz.underlying25 rfl Tryz.sizeOf22 rfl ?_
 refine s_ld rfl ((hC6.adv (x10.trans (x14.trans x17))).cells.at 1 rfl) Tryz.isAgg22 rfl ?_
 refine s_len rfl (f_m_1.adv hI16.adv) Tryz.underlying22 rfl ?_
 refine s_mv rfl rfl ?_
 refine Reg.nil ?_
 obtain ⟨j18, h19, h⟩ := bnd h
 refine cw_sub (L := [(13, _), (14, _), (15, _), (1, _), (2, _), (4, _)]) (Sub.cons rfl (Sub.cons rfl (Sub.cons rfl (Sub.cons rfl (Sub.cons rfl (Sub.cons rfl (Sub.nil _))))))) ?_
 refine cw_unitD 3 (ι := (List I70) × Value) (fun ⟨x20, v21⟩ => []) (fun ⟨x20, v21⟩ => fun w22 => Hp w [] M [ownR [] I70E 70 v21 x20, rowR 48 b11 [Value.int .i64 m.traits, v_m_1, v_m_2, Value.int .i64 m.need, v21], rowR 48 b7 [Value.int .i64 0, Value.slice none 0 0, Value.slice none 0 0, Value.int .i64 0, Value.slice none 0 0]] w22 ∧ Adv (mm [rowR 48 b11 [Value.int .i64 m.traits, v_m_1, v_m_2, Value.int .i64 m.need, Value.slice none 0 0], rowR 48 b7 [Value.int .i64 0, Value.slice none 0 0, Value.slice none 0 0, Value.int .i64 0, Value.slice none 0 0]] M) (mm [ownR [] I70E 70 v21 x20, rowR 48 b11 [Value.int .i64 m.traits, v_m_1, v_m_2, Value.int .i64 m.need, v21], rowR 48 b7 [Value.int .i64 0, Value.slice none 0 0, Value.slice none 0 0, Value.int .i64 0, Value.slice none 0 0]] M) w15 w22 ∧ x20 = j18) ?_ ?_
 ·skip
  refine cw_block ?_
  refine cw_sub (L := [(15, _), (1, _), (2, _), (4, _), (13, _), (14, _)]) (Sub.cons rfl (Sub.cons rfl (Sub.cons rfl (Sub.cons rfl (Sub.cons rfl (Sub.cons rfl (Sub.nil _))))))) ?_
  have hI32 := hI16.addNil I70E 70
  refine cw_loopM 1 (ι := Int × (List I70) × Value) _ (fun ⟨x25, x27, v28⟩ => [(15, Value.int .i64 x25)]) (fun ⟨x25, x27, v28⟩ => (x25, x27)) (fun ⟨x25, x27, v28⟩ => fun w29 => Hp w [] M [ownR [] I70E 70 v28 x27, rowR 48 b11 [Value.int .i64 m.traits, v_m_1, v_m_2, Value.int .i64 m.need, v28], rowR 48 b7 [Value.int .i64 0, Value.slice none 0 0, Value.slice none 0 0, Value.int .i64 0, Value.slice none 0 0]] w29 ∧ Adv (mm [rowR 48 b11 [Value.int .i64 m.traits, v_m_1, v_m_2, Value.int .i64 m.need, Value.slice none 0 0], rowR 48 b7 [Value.int .i64 0, Value.slice none 0 0, Value.slice none 0 0, Value.int .i64 0, Value.slice none 0 0]] M) (mm [ownR [] I70E 70 v28 x27, rowR 48 b11 [Value.int .i64 m.traits, v_m_1, v_m_2, Value.int .i64 m.need, v28], rowR 48 b7 [Value.int .i64 0, Value.slice none 0 0, Value.slice none 0 0, Value.int .i64 0, Value.slice none 0 0]] M) w15 w29 ∧ InK .i64 x25) (0, ([] : List I70), (Value.slice none 0 0)) h19 ⟨hI32, (Hp.addNilA (σ := [rowR 48 b11 [Value.int .i64 m.traits, v_m_1, v_m_2, Value.int .i64 m.need, Value.slice none 0 0], rowR 48 b7 [Value.int .i64 0, Value.slice none 0 0, Value.slice none 0 0, Value.int .i64 0, Value.slice none 0 0]]) I70E 70), (by decide)⟩ (Sub.cons rfl (Sub.cons rfl (Sub.cons rfl (Sub.cons rfl (Sub.cons rfl (Sub.cons rfl (Sub.nil _))))))) ?_
  rintro ⟨x25, x27, v28⟩ w29 ⟨hI30, hA31, r26⟩ y33 h34 hR35
  refine cw_seq (cw_regF ?_)
  refine s_lss rfl rfl rfl ?_
  refine Reg.nil ?_
  refine cw_seq ?_
  refine cw_cond rfl (fun hc36 => ?_) (fun hc36 => ?_)
  ·replace h34 := cdT hc36 h34
   refine cw_skip ?_
   refine cw_seq ?_
   refine cw_block ?_
   refine cw_seq (cw_regF ?_)
   obtain ⟨y37, hy37, h34⟩ := bnd h34
   refine p_ia rfl rfl (f_m_1.adv hI30.adv) hy37 Tryz.underlying22 Tryz.sizeOf39 rfl ?_
   intro b38 o39 cs40 hR41 hC42
   obtain ⟨v45, rfl, r43, r44, hf46⟩ := CardE_R.1 hR41
   refine s_lda rfl hC42.cells Tryz.isAgg39 rfl Tryz.sizeOf39 rfl ?_
   refine y_al hI30 Tryz.zeroValue39 rfl rfl ?_
   intro b47 w48 hI49 x50
   refine y_st 0 hI49 rfl rfl rfl rfl Tryz.sizeOf39 rfl rfl (one1 rfl (one1 rfl (one1 (RdS.oneC hf46) one0))) ?_
   intro w51 hI52 x53
   have hC55 := hI52.freezeRow 0 rfl
   have hI54 := hI52.erase 0
   refine Reg.nil ?_
   refine cw_regF ?_
   refine s_fa rfl Tryz.underlying48 rfl Tryz.sizeOf46 rfl ?_
   refine s_ld rfl ((hI54.row 1 rfl).rd.cells.at 4 rfl) Tryz.isAgg46 rfl ?_
   refine s_lda rfl hC55.cells Tryz.isAgg39 rfl Tryz.sizeOf39 rfl ?_
   refine s_mi (du := .bool) rfl (by kernel_rfl) rfl ?_
   refine y_bs (E := I70E) (xs := [(I70.c83 (Card.mk y37.weight y37.base y37.scales))]) sl46 hI54 rfl rfl (Cls.cons rfl Cls.nil) (Chs.cons (I70E_c83 ((CardE_R (x := (Card.mk y37.weight y37.base y37.scales))).2 ⟨_, rfl, r43, r44, (hf46.adv (x50.trans (x53.trans (Hp.eraseA (σ := [rowR 39 b47 [Value.int .i64 y37.weight, Value.int .i64 y37.base, v45], ownR [] I70E 70 v28 x27, rowR 48 b11 [Value.int .i64 m.traits, v_m_1, v_m_2, Value.int .i64 m.need, v28], rowR 48 b7 [Value.int .i64 0, Value.slice none 0 0, Value.slice none 0 0, Value.int .i64 0, Value.slice none 0 0]]) 0))))⟩)) Chs.nil) rfl rfl ?_
   intro v56 w57 hI58 x59
   have hf60 := hI58.freeze 0 rfl
   have hI61 := hI58.erase 0
   obtain ⟨l62, hl62, h34⟩ := bnd h34
   obtain ⟨hbl62, el62⟩ := appo_out hl62
   refine y_app 0 sl46 hI61 rfl rfl rfl hf60 hbl62 rfl ?_
   rw [← el62]
   intro v63 w64 hI65 x66
   refine s_fa rfl Tryz.underlying48 rfl Tryz.sizeOf46 rfl ?_
   refine y_st 1 hI65 rfl rfl rfl (Own.cells1 (hI65.ownAt 0 rfl)) Tryz.sizeOf46 rfl rfl (one1 (Own.oneC (hI65.ownAt 0 rfl)) one0) ?_
   intro w67 hI68 x69
   refine Reg.nil ?_
   refine cw_regF ?_
   obtain ⟨n70, hn70, h34⟩ := bnd h34
   replace hn70 := chk_out hn70
   refine p_add rfl rfl rfl hn70 ?_
   refine s_mv rfl rfl ?_
   refine Reg.nil ?_
   obtain rfl := Option.some.inj h34
   refine ⟨rfl, (n70, l62, v63), ⟨⟨hI68, (hA31.trans (x50.trans (x53.trans ((Hp.eraseA (σ := [rowR 39 b47 [Value.int .i64 y37.weight, Value.int .i64 y37.base, v45], ownR [] I70E 70 v28 x27, rowR 48 b11 [Value.int .i64 m.traits, v_m_1, v_m_2, Value.int .i64 m.need, v28], rowR 48 b7 [Value.int .i64 0, Value.slice none 0 0, Value.slice none 0 0, Value.int .i64 0, Value.slice none 0 0]]) 0).trans (x59.trans ((Hp.eraseA (σ := [ownR [] I70E 70 v56 ([(I70.c83 (Card.mk y37.weight y37.base y37.scales))] : List I70), ownR [] I70E 70 v28 x27, rowR 48 b11 [Value.int .i64 m.traits, v_m_1, v_m_2, Value.int .i64 m.need, v28], rowR 48 b7 [Value.int .i64 0, Value.slice none 0 0, Value.slice none 0 0, Value.int .i64 0, Value.slice none 0 0]]) 0).trans (x66.trans x69))))))), hn70.2⟩, rfl⟩, Sub.cons rfl (Sub.cons rfl (Sub.cons rfl (Sub.cons rfl (Sub.cons rfl (Sub.cons rfl (Sub.nil _))))))⟩
  ·replace h34 := cdF hc36 h34
   refine cw_exit ?_
   refine exB_same ?_
   obtain rfl := Option.some.inj h34
   obtain rfl := hR35 _ rfl
   refine ⟨rfl, (x27, v28), ⟨hI30, hA31, rfl⟩, Sub.cons rfl (Sub.cons rfl (Sub.cons rfl (Sub.nil _)))⟩
 ·skip
  rintro ⟨x20, v21⟩ w22 ⟨hI23, hA24, rfl⟩
  refine cw_seq (cw_seq (cw_regF ?_))
  refine s_fa rfl Tryz.underlying25 rfl Tryz.sizeOf23 rfl ?_
  refine s_ld rfl ((hC6.adv (x10.trans (x14.trans (x17.trans hA24)))).cells.at 2 rfl) Tryz.isAgg23 rfl ?_
  refine s_len rfl (f_m_2.adv hI23.adv) Tryz.underlying23 rfl ?_
  refine s_mv rfl rfl ?_
  refine Reg.nil ?_
  obtain ⟨j71, h72, h⟩ := bnd h
  refine cw_sub (L := [(28, _), (29, _), (30, _), (1, _), (2, _), (4, _)]) (Sub.cons rfl (Sub.cons rfl (Sub.cons rfl (Sub.cons rfl (Sub.cons rfl (Sub.cons rfl (Sub.nil _))))))) ?_
  refine cw_unitD 3 (ι := (List I70) × Value) (fun ⟨x73, v74⟩ => []) (fun ⟨x73, v74⟩ => fun w75 => Hp w [] M [ownR [] I70E 70 v74 x73, rowR 48 b11 [Value.int .i64 m.traits, v_m_1, v_m_2, Value.int .i64 m.need, v74], rowR 48 b7 [Value.int .i64 0, Value.slice none 0 0, Value.slice none 0 0, Value.int .i64 0, Value.slice none 0 0]] w75 ∧ Adv (mm [ownR [] I70E 70 v21 x20, rowR 48 b11 [Value.int .i64 m.traits, v_m_1, v_m_2, Value.int .i64 m.need, v21], rowR 48 b7 [Value.int .i64 0, Value.slice none 0 0, Value.slice none 0 0, Value.int .i64 0, Value.slice none 0 0]] M) (mm [ownR [] I70E 70 v74 x73, rowR 48 b11 [Value.int .i64 m.traits, v_m_1, v_m_2, Value.int .i64 m.need, v74], rowR 48 b7 [Value.int .i64 0, Value.slice none 0 0, Value.slice none 0 0, Value.int .i64 0, Value.slice none 0 0]] M) w22 w75 ∧ x73 = j71) ?_ ?_
  ·skip
   refine cw_block ?_
   refine cw_sub (L := [(30, _), (1, _), (2, _), (4, _), (28, _), (29, _)]) (Sub.cons rfl (Sub.cons rfl (Sub.cons rfl (Sub.cons rfl (Sub.cons rfl (Sub.cons rfl (Sub.nil _))))))) ?_
   refine cw_loopM 1 (ι := Int × (List I70) × Value) _ (fun ⟨x78, x80, v81⟩ => [(30, Value.int .i64 x78)]) (fun ⟨x78, x80, v81⟩ => (x78, x80)) (fun ⟨x78, x80, v81⟩ => fun w82 => Hp w [] M [ownR [] I70E 70 v81 x80, rowR 48 b11 [Value.int .i64 m.traits, v_m_1, v_m_2, Value.int .i64 m.need, v81], rowR 48 b7 [Value.int .i64 0, Value.slice none 0 0, Value.slice none 0 0, Value.int .i64 0, Value.slice none 0 0]] w82 ∧ Adv (mm [ownR [] I70E 70 v21 x20, rowR 48 b11 [Value.int .i64 m.traits, v_m_1, v_m_2, Value.int .i64 m.need, v21], rowR 48 b7 [Value.int .i64 0, Value.slice none 0 0, Value.slice none 0 0, Value.int .i64 0, Value.slice none 0 0]] M) (mm [ownR [] I70E 70 v81 x80, rowR 48 b11 [Value.int .i64 m.traits, v_m_1, v_m_2, Value.int .i64 m.need, v81], rowR 48 b7 [Value.int .i64 0, Value.slice none 0 0, Value.slice none 0 0, Value.int .i64 0, Value.slice none 0 0]] M) w22 w82 ∧ InK .i64 x78) (0, x20, v21) h72 ⟨hI23, (Adv.refl _ _), (by decide)⟩ (Sub.cons rfl (Sub.cons rfl (Sub.cons rfl (Sub.cons rfl (Sub.cons rfl (Sub.cons rfl (Sub.nil _))))))) ?_
   rintro ⟨x78, x80, v81⟩ w82 ⟨hI83, hA84, r79⟩ y85 h86 hR87
   refine cw_seq (cw_regF ?_)
   refine s_lss rfl rfl rfl ?_
   refine Reg.nil ?_
   refine cw_seq ?_
   refine cw_cond rfl (fun hc88 => ?_) (fun hc88 => ?_)
   ·replace h86 := cdT hc88 h86
    refine cw_skip ?_
    refine cw_seq ?_
    refine cw_block ?_
    refine cw_seq (cw_regF ?_)
    obtain ⟨y89, hy89, h86⟩ := bnd h86
    refine p_ia rfl rfl (f_m_2.adv hI83.adv) hy89 Tryz.underlying23 Tryz.sizeOf44 rfl ?_
    intro b90 o91 cs92 hR93 hC94
    obtain ⟨v96, rfl, r95, hf97⟩ := TreeE_R.1 hR93
    refine s_lda rfl hC94.cells Tryz.isAgg44 rfl Tryz.sizeOf44 rfl ?_
    refine y_al hI83 Tryz.zeroValue44 rfl rfl ?_
    intro b98 w99 hI100 x101
    refine y_st 0 hI100 rfl rfl rfl rfl Tryz.sizeOf44 rfl rfl (one1 rfl (one1 (RdS.oneC hf97) one0)) ?_
    intro w102 hI103 x104
    have hC106 := hI103.freezeRow 0 rfl
    have hI105 := hI103.erase 0
    refine Reg.nil ?_
    refine cw_regF ?_
    refine s_fa rfl Tryz.underlying48 rfl Tryz.sizeOf46 rfl ?_
    refine s_ld rfl ((hI105.row 1 rfl).rd.cells.at 4 rfl) Tryz.isAgg46 rfl ?_
    refine s_lda rfl hC106.cells Tryz.isAgg44 rfl Tryz.sizeOf44 rfl ?_
    refine s_mi (du := .bool) rfl (by kernel_rfl) rfl ?_
    refine y_bs (E := I70E) (xs := [(I70.c84 (Tree.mk y89.weight y89.nodes))]) sl46 hI105 rfl rfl (Cls.cons rfl Cls.nil) (Chs.cons (I70E_c84 ((TreeE_R (x := (Tree.mk y89.weight y89.nodes))).2 ⟨_, rfl, r95, (hf97.adv (x101.trans (x104.trans (Hp.eraseA (σ := [rowR 44 b98 [Value.int .i64 y89.weight, v96], ownR [] I70E 70 v81 x80, rowR 48 b11 [Value.int .i64 m.traits, v_m_1, v_m_2, Value.int .i64 m.need, v81], rowR 48 b7 [Value.int .i64 0, Value.slice none 0 0, Value.slice none 0 0, Value.int .i64 0, Value.slice none 0 0]]) 0))))⟩)) Chs.nil) rfl rfl ?_
    intro v107 w108 hI109 x110
    have hf111 := hI109.freeze 0 rfl
    have hI112 := hI109.erase 0
    obtain ⟨l113, hl113, h86⟩ := bnd h86
    obtain ⟨hbl113, el113⟩ := appo_out hl113
    refine y_app 0 sl46 hI112 rfl rfl rfl hf111 hbl113 rfl ?_
    rw [← el113]
    intro v114 w115 hI116 x117
    refine s_fa rfl Tryz.underlying48 rfl Tryz.sizeOf46 rfl ?_
    refine y_st 1 hI116 rfl rfl rfl (Own.cells1 (hI116.ownAt 0 rfl)) Tryz.sizeOf46 rfl rfl (one1 (Own.oneC (hI116.ownAt 0 rfl)) one0) ?_
    intro w118 hI119 x120
    refine Reg.nil ?_
    refine cw_regF ?_
    obtain ⟨n121, hn121, h86⟩ := bnd h86
    replace hn121 := chk_out hn121
    refine p_add rfl rfl rfl hn121 ?_
    refine s_mv rfl rfl ?_
    refine Reg.nil ?_
    obtain rfl := Option.some.inj h86
    refine ⟨rfl, (n121, l113, v114), ⟨⟨hI119, (hA84.trans (x101.trans (x104.trans ((Hp.eraseA (σ := [rowR 44 b98 [Value.int .i64 y89.weight, v96], ownR [] I70E 70 v81 x80, rowR 48 b11 [Value.int .i64 m.traits, v_m_1, v_m_2, Value.int .i64 m.need, v81], rowR 48 b7 [Value.int .i64 0, Value.slice none 0 0, Value.slice none 0 0, Value.int .i64 0, Value.slice none 0 0]]) 0).trans (x110.trans ((Hp.eraseA (σ := [ownR [] I70E 70 v107 ([(I70.c84 (Tree.mk y89.weight y89.nodes))] : List I70), ownR [] I70E 70 v81 x80, rowR 48 b11 [Value.int .i64 m.traits, v_m_1, v_m_2, Value.int .i64 m.need, v81], rowR 48 b7 [Value.int .i64 0, Value.slice none 0 0, Value.slice none 0 0, Value.int .i64 0, Value.slice none 0 0]]) 0).trans (x117.trans x120))))))), hn121.2⟩, rfl⟩, Sub.cons rfl (Sub.cons rfl (Sub.cons rfl (Sub.cons rfl (Sub.cons rfl (Sub.cons rfl (Sub.nil _))))))⟩
   ·replace h86 := cdF hc88 h86
    refine cw_exit ?_
    refine exB_same ?_
    obtain rfl := Option.some.inj h86
    obtain rfl := hR87 _ rfl
    refine ⟨rfl, (x80, v81), ⟨hI83, hA84, rfl⟩, Sub.cons rfl (Sub.cons rfl (Sub.cons rfl (Sub.nil _)))⟩
  ·skip
   rintro ⟨x73, v74⟩ w75 ⟨hI76, hA77, rfl⟩
   refine cw_seq (cw_regF ?_)
   refine s_mf rfl rfl ?_
   refine s_as rfl rfl ?_
   refine Reg.nil ?_
   refine cw_seq ?_
   obtain ⟨j122, h123, h⟩ := bnd h
   refine cw_sub (L := [(1, _), (9, _), (2, _), (4, _)]) (Sub.cons rfl (Sub.cons rfl (Sub.cons rfl (Sub.cons rfl (Sub.nil _))))) ?_
   refine cw_seqD 2 (ι := Bool) (fun x124 => [(72, Value.bool x124)]) (fun x124 => fun w125 => Hp w [] M [ownR [] I70E 70 v74 x73, rowR 48 b11 [Value.int .i64 m.traits, v_m_1, v_m_2, Value.int .i64 m.need, v74], rowR 48 b7 [Value.int .i64 0, Value.slice none 0 0, Value.slice none 0 0, Value.int .i64 0, Value.slice none 0 0]] w125 ∧ Adv (mm [ownR [] I70E 70 v74 x73, rowR 48 b11 [Value.int .i64 m.traits, v_m_1, v_m_2, Value.int .i64 m.need, v74], rowR 48 b7 [Value.int .i64 0, Value.slice none 0 0, Value.slice none 0 0, Value.int .i64 0, Value.slice none 0 0]] M) (mm [ownR [] I70E 70 v74 x73, rowR 48 b11 [Value.int .i64 m.traits, v_m_1, v_m_2, Value.int .i64 m.need, v74], rowR 48 b7 [Value.int .i64 0, Value.slice none 0 0, Value.slice none 0 0, Value.int .i64 0, Value.slice none 0 0]] M) w75 w125 ∧ x124 = j122) ?_ ?_
   ·skip
    refine cw_regF ?_
    refine s_fa rfl Tryz.underlying25 rfl Tryz.sizeOf3 rfl ?_
    refine s_ld rfl ((hC6.adv (x10.trans (x14.trans (x17.trans (hA24.trans hA77))))).cells.at 0 rfl) Tryz.isAgg3 rfl ?_
    refine y_bs (E := (intE .i64)) (xs := [m.traits]) sl26 hI76 rfl rfl (Cls.cons rfl Cls.nil) (Chs.cons ⟨rfl, f_m_0⟩ Chs.nil) rfl rfl ?_
    intro v128 w129 hI130 x131
    obtain ⟨z132, hz133, h123⟩ := bnd h123
    refine s_call rfl Tryz.call22 rfl ?_
    refine (C_score_within (hI130.sel [1, 2, 3] rfl).mlt (by decide) (by decide) (hI130.lendRd [1, 2, 3] 0 rfl rfl) hz133).mono ?_
    rintro _ w134 ⟨rfl, e135⟩
    refine ⟨_, rfl, ?_⟩
    have hI136 := hI130.ext e135
    refine s_not rfl rfl ?_
    refine s_mv rfl rfl ?_
    refine Reg.gsplit (t := 48) rfl (fun hg137 => ?_) (fun hg137 => ?_)
    ·replace h123 := cdT hg137 h123
     refine Reg.pass rfl rfl rfl rfl ?_
     refine Reg.pass rfl rfl rfl rfl ?_
     refine Reg.pass rfl rfl rfl rfl ?_
     refine Reg.pass rfl rfl rfl rfl ?_
     refine Reg.pass rfl rfl rfl rfl ?_
     refine s_pkT rfl rfl rfl ?_
     refine s_mv rfl rfl ?_
     refine Reg.pass rfl rfl rfl rfl ?_
     refine Reg.pass rfl rfl rfl rfl ?_
     refine Reg.pass rfl rfl rfl rfl ?_
     refine Reg.pass rfl rfl rfl rfl ?_
     refine s_pkT rfl rfl rfl ?_
     refine s_mv rfl rfl ?_
     refine Reg.pass rfl rfl rfl rfl ?_
     refine Reg.pass rfl rfl rfl rfl ?_
     refine Reg.pass rfl rfl rfl rfl ?_
     refine Reg.pass rfl rfl rfl rfl ?_
     refine s_pkT rfl rfl rfl ?_
     refine s_mv rfl rfl ?_
     refine Reg.pass rfl rfl rfl rfl ?_
     refine Reg.pass rfl rfl rfl rfl ?_
     refine Reg.pass rfl rfl rfl rfl ?_
     refine Reg.pass rfl rfl rfl rfl ?_
     refine s_pkT rfl rfl rfl ?_
     refine Reg.nil ?_
     obtain rfl := Option.some.inj h123
     refine ⟨rfl, true, ⟨(hI136.sel [1, 2, 3] rfl), ((x131.trans (Adv.of_ext e135)).trans (Hp.selA (σ := [ownR [] (intE .i64) 3 v128 ([m.traits] : List Int), ownR [] I70E 70 v74 x73, rowR 48 b11 [Value.int .i64 m.traits, v_m_1, v_m_2, Value.int .i64 m.need, v74], rowR 48 b7 [Value.int .i64 0, Value.slice none 0 0, Value.slice none 0 0, Value.int .i64 0, Value.slice none 0 0]]) [1, 2, 3])), rfl⟩, Sub.cons rfl (Sub.cons rfl (Sub.cons rfl (Sub.nil _)))⟩
    ·replace h123 := cdF hg137 h123
     refine Reg.take rfl rfl ?_
     refine s_fa rfl Tryz.underlying25 rfl Tryz.sizeOf3 rfl ?_
     refine Reg.take rfl rfl ?_
     refine s_ld rfl ((hC6.adv (x10.trans (x14.trans (x17.trans (hA24.trans (hA77.trans (x131.trans (Adv.of_ext e135)))))))).cells.at 3 rfl) Tryz.isAgg3 rfl ?_
     refine Reg.take rfl rfl ?_
     refine y_bs (E := (intE .i64)) (xs := [m.need]) sl26 hI136 rfl rfl (Cls.cons rfl Cls.nil) (Chs.cons ⟨rfl, f_m_3⟩ Chs.nil) rfl rfl ?_
     intro v138 w139 hI140 x141
     refine Reg.take rfl rfl ?_
     obtain ⟨z142, hz143, h123⟩ := bnd h123
     refine s_call rfl Tryz.call35 rfl ?_
     refine (C_score_counts (hI140.sel [1, 2, 3, 4] rfl).mlt (hI140.lendRd [1, 2, 3, 4] 0 rfl rfl) hz143).mono ?_
     rintro _ w144 ⟨rfl, e145⟩
     refine ⟨_, rfl, ?_⟩
     have hI146 := hI140.ext e145
     refine Reg.take rfl rfl ?_
     refine s_not rfl rfl ?_
     refine s_pkF rfl rfl rfl ?_
     refine s_mv rfl rfl ?_
     refine Reg.gsplit (t := 55) rfl (fun hg147 => ?_) (fun hg147 => ?_)
     ·replace h123 := cdT hg147 h123
      refine Reg.pass rfl rfl rfl rfl ?_
      refine Reg.pass rfl rfl rfl rfl ?_
      refine Reg.pass rfl rfl rfl rfl ?_
      refine Reg.pass rfl rfl rfl rfl ?_
      refine s_pkT rfl rfl rfl ?_
      refine s_mv rfl rfl ?_
      refine Reg.pass rfl rfl rfl rfl ?_
      refine Reg.pass rfl rfl rfl rfl ?_
      refine Reg.pass rfl rfl rfl rfl ?_
      refine Reg.pass rfl rfl rfl rfl ?_
      refine s_pkT rfl rfl rfl ?_
      refine s_mv rfl rfl ?_
      refine Reg.pass rfl rfl rfl rfl ?_
      refine Reg.pass rfl rfl rfl rfl ?_
      refine Reg.pass rfl rfl rfl rfl ?_
      refine Reg.pass rfl rfl rfl rfl ?_
      refine s_pkT rfl rfl rfl ?_
      refine Reg.nil ?_
      obtain rfl := Option.some.inj h123
      refine ⟨rfl, true, ⟨(hI146.sel [2, 3, 4] rfl), ((x131.trans ((Adv.of_ext e135).trans (x141.trans (Adv.of_ext e145)))).trans (Hp.selA (σ := [ownR [] (intE .i64) 3 v138 ([m.need] : List Int), ownR [] (intE .i64) 3 v128 ([m.traits] : List Int), ownR [] I70E 70 v74 x73, rowR 48 b11 [Value.int .i64 m.traits, v_m_1, v_m_2, Value.int .i64 m.need, v74], rowR 48 b7 [Value.int .i64 0, Value.slice none 0 0, Value.slice none 0 0, Value.int .i64 0, Value.slice none 0 0]]) [2, 3, 4])), rfl⟩, Sub.cons rfl (Sub.cons rfl (Sub.cons rfl (Sub.nil _)))⟩
     ·replace h123 := cdF hg147 h123
      refine Reg.take rfl rfl ?_
      refine s_fa rfl Tryz.underlying25 rfl Tryz.sizeOf22 rfl ?_
      refine Reg.take rfl rfl ?_
      refine s_ld rfl ((hC6.adv (x10.trans (x14.trans (x17.trans (hA24.trans (hA77.trans (x131.trans ((Adv.of_ext e135).trans (x141.trans (Adv.of_ext e145)))))))))).cells.at 1 rfl) Tryz.isAgg22 rfl ?_
      refine Reg.take rfl rfl ?_
      refine s_len rfl (f_m_1.adv hI146.adv) Tryz.underlying22 rfl ?_
      refine Reg.take rfl rfl ?_
      refine s_gtr rfl rfl rfl ?_
      refine s_pkF rfl rfl rfl ?_
      refine s_mv rfl rfl ?_
      refine Reg.gsplit (t := 61) rfl (fun hg148 => ?_) (fun hg148 => ?_)
      ·replace h123 := cdT hg148 h123
       refine Reg.pass rfl rfl rfl rfl ?_
       refine Reg.pass rfl rfl rfl rfl ?_
       refine Reg.pass rfl rfl rfl rfl ?_
       refine Reg.pass rfl rfl rfl rfl ?_
       refine s_pkT rfl rfl rfl ?_
       refine s_mv rfl rfl ?_
       refine Reg.pass rfl rfl rfl rfl ?_
       refine Reg.pass rfl rfl rfl rfl ?_
       refine Reg.pass rfl rfl rfl rfl ?_
       refine Reg.pass rfl rfl rfl rfl ?_
       refine s_pkT rfl rfl rfl ?_
       refine Reg.nil ?_
       obtain rfl := Option.some.inj h123
       refine ⟨rfl, true, ⟨(hI146.sel [2, 3, 4] rfl), ((x131.trans ((Adv.of_ext e135).trans (x141.trans (Adv.of_ext e145)))).trans (Hp.selA (σ := [ownR [] (intE .i64) 3 v138 ([m.need] : List Int), ownR [] (intE .i64) 3 v128 ([m.traits] : List Int), ownR [] I70E 70 v74 x73, rowR 48 b11 [Value.int .i64 m.traits, v_m_1, v_m_2, Value.int .i64 m.need, v74], rowR 48 b7 [Value.int .i64 0, Value.slice none 0 0, Value.slice none 0 0, Value.int .i64 0, Value.slice none 0 0]]) [2, 3, 4])), rfl⟩, Sub.cons rfl (Sub.cons rfl (Sub.cons rfl (Sub.nil _)))⟩
      ·replace h123 := cdF hg148 h123
       refine Reg.take rfl rfl ?_
       refine s_fa rfl Tryz.underlying25 rfl Tryz.sizeOf23 rfl ?_
       refine Reg.take rfl rfl ?_
       refine s_ld rfl ((hC6.adv (x10.trans (x14.trans (x17.trans (hA24.trans (hA77.trans (x131.trans ((Adv.of_ext e135).trans (x141.trans (Adv.of_ext e145)))))))))).cells.at 2 rfl) Tryz.isAgg23 rfl ?_
       refine Reg.take rfl rfl ?_
       refine s_len rfl (f_m_2.adv hI146.adv) Tryz.underlying23 rfl ?_
       refine Reg.take rfl rfl ?_
       refine s_gtr rfl rfl rfl ?_
       refine s_pkF rfl rfl rfl ?_
       refine s_mv rfl rfl ?_
       refine Reg.gsplit (t := 67) rfl (fun hg149 => ?_) (fun hg149 => ?_)
       ·replace h123 := cdT hg149 h123
        refine Reg.pass rfl rfl rfl rfl ?_
        refine Reg.pass rfl rfl rfl rfl ?_
        refine Reg.pass rfl rfl rfl rfl ?_
        refine Reg.pass rfl rfl rfl rfl ?_
        refine s_pkT rfl rfl rfl ?_
        refine Reg.nil ?_
        obtain rfl := Option.some.inj h123
        refine ⟨rfl, true, ⟨(hI146.sel [2, 3, 4] rfl), ((x131.trans ((Adv.of_ext e135).trans (x141.trans (Adv.of_ext e145)))).trans (Hp.selA (σ := [ownR [] (intE .i64) 3 v138 ([m.need] : List Int), ownR [] (intE .i64) 3 v128 ([m.traits] : List Int), ownR [] I70E 70 v74 x73, rowR 48 b11 [Value.int .i64 m.traits, v_m_1, v_m_2, Value.int .i64 m.need, v74], rowR 48 b7 [Value.int .i64 0, Value.slice none 0 0, Value.slice none 0 0, Value.int .i64 0, Value.slice none 0 0]]) [2, 3, 4])), rfl⟩, Sub.cons rfl (Sub.cons rfl (Sub.cons rfl (Sub.nil _)))⟩
       ·replace h123 := cdF hg149 h123
        refine Reg.take rfl rfl ?_
        refine s_fa rfl Tryz.underlying48 rfl Tryz.sizeOf46 rfl ?_
        refine Reg.take rfl rfl ?_
        refine s_ld rfl ((hI146.row 3 rfl).rd.cells.at 4 rfl) Tryz.isAgg46 rfl ?_
        refine Reg.take rfl rfl ?_
        refine s_mv rfl rfl ?_
        refine Reg.take rfl rfl ?_
        obtain ⟨z150, hz151, h123⟩ := bnd h123
        refine s_call rfl Tryz.call36 rfl ?_
        refine (C_slices_ContainsFunc_36 (hI146.sel [0, 1, 3, 4] rfl).mlt (hI146.lendRd [0, 1, 3, 4] 2 rfl rfl) (fun a0 a1 r w9 e9 f0 hr => CallsV.ofL Tryz.call34 rfl (C_score_open_in1 ((hI146.sel [0, 1, 3, 4] rfl).mlt.ext e9) f0 f_m_0 ((f_m_1.adv hI146.adv).adv ((Hp.selA (σ := [ownR [] (intE .i64) 3 v138 ([m.need] : List Int), ownR [] (intE .i64) 3 v128 ([m.traits] : List Int), ownR [] I70E 70 v74 x73, rowR 48 b11 [Value.int .i64 m.traits, v_m_1, v_m_2, Value.int .i64 m.need, v74], rowR 48 b7 [Value.int .i64 0, Value.slice none 0 0, Value.slice none 0 0, Value.int .i64 0, Value.slice none 0 0]]) (M := M) [0, 1, 3, 4]).trans (Adv.of_ext e9))) ((f_m_2.adv hI146.adv).adv ((Hp.selA (σ := [ownR [] (intE .i64) 3 v138 ([m.need] : List Int), ownR [] (intE .i64) 3 v128 ([m.traits] : List Int), ownR [] I70E 70 v74 x73, rowR 48 b11 [Value.int .i64 m.traits, v_m_1, v_m_2, Value.int .i64 m.need, v74], rowR 48 b7 [Value.int .i64 0, Value.slice none 0 0, Value.slice none 0 0, Value.int .i64 0, Value.slice none 0 0]]) (M := M) [0, 1, 3, 4]).trans (Adv.of_ext e9))) f_m_3 ((hC6.adv (x10.trans (x14.trans (x17.trans (hA24.trans (hA77.trans (x131.trans ((Adv.of_ext e135).trans (x141.trans (Adv.of_ext e145)))))))))).adv ((Hp.selA (σ := [ownR [] (intE .i64) 3 v138 ([m.need] : List Int), ownR [] (intE .i64) 3 v128 ([m.traits] : List Int), ownR [] I70E 70 v74 x73, rowR 48 b11 [Value.int .i64 m.traits, v_m_1, v_m_2, Value.int .i64 m.need, v74], rowR 48 b7 [Value.int .i64 0, Value.slice none 0 0, Value.slice none 0 0, Value.int .i64 0, Value.slice none 0 0]]) (M := M) [0, 1, 3, 4]).trans (Adv.of_ext e9))) hr)) hz151).mono ?_
        rintro _ w152 ⟨rfl, e153⟩
        refine ⟨_, rfl, ?_⟩
        have hI154 := hI146.ext e153
        refine s_pkF rfl rfl rfl ?_
        refine Reg.nil ?_
        obtain rfl := Option.some.inj h123
        refine ⟨rfl, z150, ⟨(hI154.sel [2, 3, 4] rfl), ((x131.trans ((Adv.of_ext e135).trans (x141.trans ((Adv.of_ext e145).trans (Adv.of_ext e153))))).trans (Hp.selA (σ := [ownR [] (intE .i64) 3 v138 ([m.need] : List Int), ownR [] (intE .i64) 3 v128 ([m.traits] : List Int), ownR [] I70E 70 v74 x73, rowR 48 b11 [Value.int .i64 m.traits, v_m_1, v_m_2, Value.int .i64 m.need, v74], rowR 48 b7 [Value.int .i64 0, Value.slice none 0 0, Value.slice none 0 0, Value.int .i64 0, Value.slice none 0 0]]) [2, 3, 4])), rfl⟩, Sub.cons rfl (Sub.cons rfl (Sub.cons rfl (Sub.nil _)))⟩
   ·skip
    rintro x124 w125 ⟨hI126, hA127, rfl⟩
    refine cw_cond rfl (fun hc155 => ?_) (fun hc155 => ?_)
    ·replace h := cdT hc155 h
     refine cw_seq (cw_regF ?_)
     refine s_bd [(0, 4), (4, 1)] Tryz.zeroValue48 rfl Tryz.underlying48 (fun _ => by simp [Tryz.sizeOf25, Tryz.sizeOf46]) rfl (Cls.nil) rfl rfl ?_
     refine y_st 2 hI126 rfl rfl rfl rfl Tryz.sizeOf48 rfl rfl (one1 rfl (one1 rfl (one1 rfl (one1 rfl (one1 rfl one0))))) ?_
     intro w156 hI157 x158
     refine s_as rfl rfl ?_
     refine Reg.nil ?_
     refine cw_ret ?_
     obtain ⟨rfl, rfl⟩ := inj2 h
     refine fin_any Tryz.results21 (AllRs.cons (RsOk.agg rfl (hI157.row 2 rfl).rd.cells Tryz.isAgg48 rfl Tryz.sizeOf48) (AllRs.cons (RsOk.tmp rfl) (AllRs.nil))) rfl ?_
     exact ⟨_, _, _, rfl, (by decide), (RdS.nil _ _ _), (RdS.nil _ _ _), (by decide), (RdS.nil _ _ _), (by decide), hI157.kp⟩
    ·replace h := cdF hc155 h
     refine cw_skip (cw_seq (cw_regF ?_))
     refine s_lda rfl (hI126.row 1 rfl).rd.cells Tryz.isAgg48 rfl Tryz.sizeOf48 rfl ?_
     refine y_st 2 hI126 rfl rfl rfl rfl Tryz.sizeOf48 rfl rfl (one1 rfl (one1 (RdS.oneC f_m_1) (one1 (RdS.oneC f_m_2) (one1 rfl (one1 (Own.oneC (hI126.ownAt 0 rfl)) one0))))) ?_
     intro w159 hI160 x161
     refine s_as rfl rfl ?_
     refine Reg.nil ?_
     refine cw_ret ?_
     obtain ⟨rfl, rfl⟩ := inj2 h
     have hf162 := hI160.freeze 0 rfl
     have hI163 := hI160.erase 0
     refine fin_any Tryz.results21 (AllRs.cons (RsOk.agg rfl (hI163.row 1 rfl).rd.cells Tryz.isAgg48 rfl Tryz.sizeOf48) (AllRs.cons (RsOk.tmp rfl) (AllRs.nil))) rfl ?_
     exact ⟨_, _, _, rfl, f_m_0, ((f_m_1.adv hI163.adv).adv (Hp.baseA (σ := [rowR 48 b11 [Value.int .i64 m.traits, v_m_1, v_m_2, Value.int .i64 m.need, v74], rowR 48 b7 [Value.int .i64 m.traits, v_m_1, v_m_2, Value.int .i64 m.need, v74]]))), ((f_m_2.adv hI163.adv).adv (Hp.baseA (σ := [rowR 48 b11 [Value.int .i64 m.traits, v_m_1, v_m_2, Value.int .i64 m.need, v74], rowR 48 b7 [Value.int .i64 m.traits, v_m_1, v_m_2, Value.int .i64 m.need, v74]]))), f_m_3, (hf162.adv (Hp.baseA (σ := [rowR 48 b11 [Value.int .i64 m.traits, v_m_1, v_m_2, Value.int .i64 m.need, v74], rowR 48 b7 [Value.int .i64 m.traits, v_m_1, v_m_2, Value.int .i64 m.need, v74]]))), (by decide), hI163.kp⟩
noncomputable def P.score_asked (m : Model) (x : (List Int)) : Option (Works × Int) :=
 Option.bind (P.score_open (Model.mk m.traits m.cards m.trees m.need)) fun (z11, z12) => Option.bind (cond (decide (z12 = 0)) (cond (!decide ((x.length : Int) = m.traits)) (some true) (Option.bind (P.score_within (-1) 1000000 x) fun z37 => some (!z37))) (some false)) fun x42 => cond x42 (some ((Works.mk (Model.mk z11.model.traits z11.model.cards z11.model.trees z11.model.need) z11.parts), 61)) (some ((Works.mk (Model.mk z11.model.traits z11.model.cards z11.model.trees z11.model.need) z11.parts), z12))
theorem C_score_asked {M : List Nat} {w : World} (hM : MLt M w) {m : Model} {v_m_1 : Value} {v_m_2 : Value} (f_m_0 : InK .i64 m.traits) (f_m_1 : RdS CardE M w v_m_1 m.cards) (f_m_2 : RdS TreeE M w v_m_2 m.trees) (f_m_3 : InK .i64 m.need) {x : (List Int)} {v_x_0 : Value} (f_x_0 : RdS (intE .i64) M w v_x_0 x) {r0 : Works} {r1 : Int} (h : P.score_asked m x = some (r0, r1)) :
  Calls Tryz.prog 10 (List.toArray [Value.agg (List.toArray [Value.int .i64 m.traits, v_m_1, v_m_2, Value.int .i64 m.need]), v_x_0]) w fun e w' => ∃ v0_1 : Value, ∃ v0_2 : Value, ∃ v0_4 : Value, e = .returned (Value.tuple (List.toArray [Value.agg (List.toArray [Value.int .i64 r0.model.traits, v0_1, v0_2, Value.int .i64 r0.model.need, v0_4]), Value.int .i64 r1])) ∧ InK .i64 r0.model.traits ∧ RdS CardE M w' v0_1 r0.model.cards ∧ RdS TreeE M w' v0_2 r0.model.trees ∧ InK .i64 r0.model.need ∧ RdS I70E M w' v0_4 r0.parts ∧ InK .i64 r1 ∧ Ext w w' := by
 have hI := Hp.start (Mu := []) hM
 refine calls_cw Tryz.func10 rfl Tryz.ntmps10 rfl ?_
 refine cw_seq (cw_regF ?_)
 refine y_box hI rfl rfl rfl ?_
 intro b1 w2 hI3 x4
 have hC6 := hI3.freezeRow 0 rfl
 have hI5 := hI3.erase 0
 refine y_al hI5 Tryz.zeroValue48 rfl rfl ?_
 intro b7 w8 hI9 x10
 refine s_as rfl rfl ?_
 refine Reg.nil ?_
 refine cw_seq (cw_regF ?_)
 refine s_lda rfl (hC6.adv x10).cells Tryz.isAgg25 rfl Tryz.sizeOf25 rfl ?_
 obtain ⟨⟨z11, z12⟩, hz13, h⟩ := bnd h
 refine s_call rfl Tryz.call21 rfl ?_
 refine (C_score_open hI9.mlt f_m_0 (f_m_1.adv hI9.adv) (f_m_2.adv hI9.adv) f_m_3 hz13).mono ?_
 rintro _ w14 ⟨v17, v19, v22, rfl, r16, hf18, hf20, r21, hf23, r24, e15⟩
 refine ⟨_, rfl, ?_⟩
 have hI25 := hI9.ext e15
 refine s_mv rfl rfl ?_
 refine s_xt rfl rfl rfl ?_
 refine s_xt rfl rfl rfl ?_
 refine y_al hI25 Tryz.zeroValue48 rfl rfl ?_
 intro b26 w27 hI28 x29
 refine y_st 0 hI28 rfl rfl rfl rfl Tryz.sizeOf48 rfl rfl (one1 rfl (one1 (RdS.oneC hf18) (one1 (RdS.oneC hf20) (one1 rfl (one1 (RdS.oneC hf23) one0))))) ?_
 intro w30 hI31 x32
 have hC34 := hI31.freezeRow 0 rfl
 have hI33 := hI31.erase 0
 refine s_as rfl rfl ?_
 refine Reg.nil ?_
 refine cw_seq ?_
 obtain ⟨j35, h36, h⟩ := bnd h
 refine cw_sub (L := [(1, _), (2, _), (4, _), (6, _), (7, _)]) (Sub.cons rfl (Sub.cons rfl (Sub.cons rfl (Sub.cons rfl (Sub.cons rfl (Sub.nil _)))))) ?_
 refine cw_seqD 2 (ι := Bool) (fun x37 => [(26, Value.bool x37)]) (fun x37 => fun w38 => Hp w [] M [rowR 48 b7 [Value.int .i64 0, Value.slice none 0 0, Value.slice none 0 0, Value.int .i64 0, Value.slice none 0 0]] w38 ∧ Adv (mm [rowR 48 b7 [Value.int .i64 0, Value.slice none 0 0, Value.slice none 0 0, Value.int .i64 0, Value.slice none 0 0]] M) (mm [rowR 48 b7 [Value.int .i64 0, Value.slice none 0 0, Value.slice none 0 0, Value.int .i64 0, Value.slice none 0 0]] M) w30 w38 ∧ x37 = j35) ?_ ?_
 ·skip
  refine cw_regF ?_
  refine s_mv rfl rfl ?_
  refine s_eql rfl rfl rfl ?_
  refine s_mv rfl rfl ?_
  refine Reg.gsplit (t := 15) rfl (fun hg41 => ?_) (fun hg41 => ?_)
  ·replace h36 := cdT hg41 h36
   refine Reg.take rfl rfl ?_
   refine s_mv rfl rfl ?_
   refine Reg.take rfl rfl ?_
   refine s_len rfl (f_x_0.adv hI33.adv) Tryz.underlying26 rfl ?_
   refine Reg.take rfl rfl ?_
   refine s_fa rfl Tryz.underlying25 rfl Tryz.sizeOf3 rfl ?_
   refine Reg.take rfl rfl ?_
   refine s_ld rfl ((hC6.adv (x10.trans ((Adv.of_ext e15).trans (x29.trans (x32.trans (Hp.eraseA (σ := [rowR 48 b26 [Value.int .i64 z11.model.traits, v17, v19, Value.int .i64 z11.model.need, v22], rowR 48 b7 [Value.int .i64 0, Value.slice none 0 0, Value.slice none 0 0, Value.int .i64 0, Value.slice none 0 0]]) 0)))))).cells.at 0 rfl) Tryz.isAgg3 rfl ?_
   refine Reg.take rfl rfl ?_
   refine s_neq rfl rfl rfl ?_
   refine Reg.take rfl rfl ?_
   refine s_mv rfl rfl ?_
   refine Reg.gsplit (t := 21) rfl (fun hg42 => ?_) (fun hg42 => ?_)
   ·replace h36 := cdT hg42 h36
    refine Reg.pass rfl rfl rfl rfl ?_
    refine Reg.pass rfl rfl rfl rfl ?_
    refine Reg.pass rfl rfl rfl rfl ?_
    refine Reg.take rfl rfl ?_
    refine s_pkT rfl rfl rfl ?_
    refine s_pkT rfl rfl rfl ?_
    refine Reg.nil ?_
    obtain rfl := Option.some.inj h36
    refine ⟨rfl, true, ⟨hI33, (Adv.refl _ _), rfl⟩, Sub.cons rfl (Sub.cons rfl (Sub.cons rfl (Sub.cons rfl (Sub.nil _))))⟩
   ·replace h36 := cdF hg42 h36
    refine Reg.take rfl rfl ?_
    refine s_mv rfl rfl ?_
    refine Reg.take rfl rfl ?_
    obtain ⟨z43, hz44, h36⟩ := bnd h36
    refine s_call rfl Tryz.call22 rfl ?_
    refine (C_score_within hI33.mlt (by decide) (by decide) (f_x_0.adv hI33.adv) hz44).mono ?_
    rintro _ w45 ⟨rfl, e46⟩
    refine ⟨_, rfl, ?_⟩
    have hI47 := hI33.ext e46
    refine Reg.take rfl rfl ?_
    refine s_not rfl rfl ?_
    refine Reg.take rfl rfl ?_
    refine s_pkF rfl rfl rfl ?_
    refine s_pkT rfl rfl rfl ?_
    refine Reg.nil ?_
    obtain rfl := Option.some.inj h36
    refine ⟨rfl, !z43, ⟨hI47, (Adv.of_ext e46), rfl⟩, Sub.cons rfl (Sub.cons rfl (Sub.cons rfl (Sub.cons rfl (Sub.nil _))))⟩
  ·replace h36 := cdF hg41 h36
   refine Reg.pass rfl rfl rfl rfl ?_
   refine Reg.pass rfl rfl rfl rfl ?_
   refine Reg.pass rfl rfl rfl rfl ?_
   refine Reg.pass rfl rfl rfl rfl ?_
   refine Reg.pass rfl rfl rfl rfl ?_
   refine Reg.pass rfl rfl rfl rfl ?_
   refine Reg.passU rfl rfl rfl ?_
   refine Reg.passU rfl rfl rfl ?_
   refine Reg.passU rfl rfl rfl ?_
   refine Reg.pass rfl rfl rfl rfl ?_
   refine s_pkF rfl rfl rfl ?_
   refine Reg.nil ?_
   obtain rfl := Option.some.inj h36
   refine ⟨rfl, false, ⟨hI33, (Adv.refl _ _), rfl⟩, Sub.cons rfl (Sub.cons rfl (Sub.cons rfl (Sub.cons rfl (Sub.nil _))))⟩
 ·skip
  rintro x37 w38 ⟨hI39, hA40, rfl⟩
  refine cw_cond rfl (fun hc48 => ?_) (fun hc48 => ?_)
  ·replace h := cdT hc48 h
   refine cw_seq (cw_regF ?_)
   refine s_lda rfl (hC34.adv hA40).cells Tryz.isAgg48 rfl Tryz.sizeOf48 rfl ?_
   refine y_st 0 hI39 rfl rfl rfl rfl Tryz.sizeOf48 rfl rfl (one1 rfl (one1 (RdS.oneC hf18) (one1 (RdS.oneC hf20) (one1 rfl (one1 (RdS.oneC hf23) one0))))) ?_
   intro w49 hI50 x51
   refine s_as rfl rfl ?_
   refine Reg.nil ?_
   refine cw_ret ?_
   obtain ⟨rfl, rfl⟩ := inj2 h
   refine fin_any Tryz.results10 (AllRs.cons (RsOk.agg rfl (hI50.row 0 rfl).rd.cells Tryz.isAgg48 rfl Tryz.sizeOf48) (AllRs.cons (RsOk.tmp rfl) (AllRs.nil))) rfl ?_
   exact ⟨_, _, _, rfl, r16, ((hf18.adv (x29.trans (x32.trans ((Hp.eraseA (σ := [rowR 48 b26 [Value.int .i64 z11.model.traits, v17, v19, Value.int .i64 z11.model.need, v22], rowR 48 b7 [Value.int .i64 0, Value.slice none 0 0, Value.slice none 0 0, Value.int .i64 0, Value.slice none 0 0]]) 0).trans (hA40.trans x51))))).adv (Hp.baseA (σ := [rowR 48 b7 [Value.int .i64 z11.model.traits, v17, v19, Value.int .i64 z11.model.need, v22]]))), ((hf20.adv (x29.trans (x32.trans ((Hp.eraseA (σ := [rowR 48 b26 [Value.int .i64 z11.model.traits, v17, v19, Value.int .i64 z11.model.need, v22], rowR 48 b7 [Value.int .i64 0, Value.slice none 0 0, Value.slice none 0 0, Value.int .i64 0, Value.slice none 0 0]]) 0).trans (hA40.trans x51))))).adv (Hp.baseA (σ := [rowR 48 b7 [Value.int .i64 z11.model.traits, v17, v19, Value.int .i64 z11.model.need, v22]]))), r21, ((hf23.adv (x29.trans (x32.trans ((Hp.eraseA (σ := [rowR 48 b26 [Value.int .i64 z11.model.traits, v17, v19, Value.int .i64 z11.model.need, v22], rowR 48 b7 [Value.int .i64 0, Value.slice none 0 0, Value.slice none 0 0, Value.int .i64 0, Value.slice none 0 0]]) 0).trans (hA40.trans x51))))).adv (Hp.baseA (σ := [rowR 48 b7 [Value.int .i64 z11.model.traits, v17, v19, Value.int .i64 z11.model.need, v22]]))), (by decide), hI50.kp⟩
  ·replace h := cdF hc48 h
   refine cw_skip (cw_seq (cw_regF ?_))
   refine s_lda rfl (hC34.adv hA40).cells Tryz.isAgg48 rfl Tryz.sizeOf48 rfl ?_
   refine s_mv rfl rfl ?_
   refine y_st 0 hI39 rfl rfl rfl rfl Tryz.sizeOf48 rfl rfl (one1 rfl (one1 (RdS.oneC hf18) (one1 (RdS.oneC hf20) (one1 rfl (one1 (RdS.oneC hf23) one0))))) ?_
   intro w52 hI53 x54
   refine s_as rfl rfl ?_
   refine Reg.nil ?_
   refine cw_ret ?_
   obtain ⟨rfl, rfl⟩ := inj2 h
   refine fin_any Tryz.results10 (AllRs.cons (RsOk.agg rfl (hI53.row 0 rfl).rd.cells Tryz.isAgg48 rfl Tryz.sizeOf48) (AllRs.cons (RsOk.tmp rfl) (AllRs.nil))) rfl ?_
   exact ⟨_, _, _, rfl, r16, ((hf18.adv (x29.trans (x32.trans ((Hp.eraseA (σ := [rowR 48 b26 [Value.int .i64 z11.model.traits, v17, v19, Value.int .i64 z11.model.need, v22], rowR 48 b7 [Value.int .i64 0, Value.slice none 0 0, Value.slice none 0 0, Value.int .i64 0, Value.slice none 0 0]]) 0).trans (hA40.trans x54))))).adv (Hp.baseA (σ := [rowR 48 b7 [Value.int .i64 z11.model.traits, v17, v19, Value.int .i64 z11.model.need, v22]]))), ((hf20.adv (x29.trans (x32.trans ((Hp.eraseA (σ := [rowR 48 b26 [Value.int .i64 z11.model.traits, v17, v19, Value.int .i64 z11.model.need, v22], rowR 48 b7 [Value.int .i64 0, Value.slice none 0 0, Value.slice none 0 0, Value.int .i64 0, Value.slice none 0 0]]) 0).trans (hA40.trans x54))))).adv (Hp.baseA (σ := [rowR 48 b7 [Value.int .i64 z11.model.traits, v17, v19, Value.int .i64 z11.model.need, v22]]))), r21, ((hf23.adv (x29.trans (x32.trans ((Hp.eraseA (σ := [rowR 48 b26 [Value.int .i64 z11.model.traits, v17, v19, Value.int .i64 z11.model.need, v22], rowR 48 b7 [Value.int .i64 0, Value.slice none 0 0, Value.slice none 0 0, Value.int .i64 0, Value.slice none 0 0]]) 0).trans (hA40.trans x54))))).adv (Hp.baseA (σ := [rowR 48 b7 [Value.int .i64 z11.model.traits, v17, v19, Value.int .i64 z11.model.need, v22]]))), r24, hI53.kp⟩
noncomputable def P.M70_points (x : I70) (x0 : (List Int)) : Option Int := match x with
 | .c83 y => P.score_card_points y x0
 | .c84 y => P.score_tree_points y x0
theorem C_M70_points {nm : String} (q83 : ∀ u w, (method (Tryz.prog.types.size + Made.depth) 83 u nm).run Tryz.prog w = .ok (109, u) w) (q84 : ∀ u w, (method (Tryz.prog.types.size + Made.depth) 84 u nm).run Tryz.prog w = .ok (119, u) w) {M : List Nat} {w : World} (hM : MLt M w) {v : Value} {x : I70} (hx : I70E.R M w [v] x) {x0 : (List Int)} {v_x0_0 : Value} (f_x0_0 : RdS (intE .i64) M w v_x0_0 x0) {r : Int} (h : P.M70_points x x0 = some r) :
  CallsI Tryz.prog v nm [v_x0_0] w fun e w' => e = .returned (Value.int .i64 r) ∧ InK .i64 r ∧ Ext w w' := by
 cases x with
 | c83 y =>
  obtain ⟨ds, he, hR⟩ := hx
  cases he
  obtain ⟨v2, rfl, g0, g1, g2⟩ := CardE_R.1 hR
  exact ⟨109, _, ⟨83, _, rfl, q83 _, Tryz.call109⟩, C_score_card_points hM g0 g1 g2 f_x0_0 h⟩
 | c84 y =>
  obtain ⟨ds, he, hR⟩ := hx
  cases he
  obtain ⟨v1, rfl, g0, g1⟩ := TreeE_R.1 hR
  exact ⟨119, _, ⟨84, _, rfl, q84 _, Tryz.call119⟩, C_score_tree_points hM g0 g1 f_x0_0 h⟩
noncomputable def P.score_works_score (w_ : Works) (x : (List Int)) : Option Int :=
 Option.bind (loopM (S := Int × Int) (R := (Int)) (fun (x7, x8) => cond (decide (x8 < (w_.parts.length : Int))) (Option.bind (ixo w_.parts x8) fun y10 => Option.bind (P.M70_weight y10) fun z18 => Option.bind (P.M70_points y10 x) fun z23 => Option.bind (chk .i64 (z18 * z23)) fun n28 => Option.bind (chk .i64 (x7 + n28)) fun n29 => Option.bind (chk .i64 (x8 + 1)) fun n30 => some (.inl (n29, n30))) (some (.inr x7))) (0, 0)) fun x31 => some x31
theorem C_score_works_score {M : List Nat} {w : World} (hM : MLt M w) {w_ : Works} {v_w__1 : Value} {v_w__2 : Value} {v_w__4 : Value} (f_w__0 : InK .i64 w_.model.traits) (f_w__1 : RdS CardE M w v_w__1 w_.model.cards) (f_w__2 : RdS TreeE M w v_w__2 w_.model.trees) (f_w__3 : InK .i64 w_.model.need) (f_w__4 : RdS I70E M w v_w__4 w_.parts) {x : (List Int)} {v_x_0 : Value} (f_x_0 : RdS (intE .i64) M w v_x_0 x) {r0 : Int} (h : P.score_works_score w_ x = some r0) :
  Calls Tryz.prog 12 (List.toArray [Value.agg (List.toArray [Value.int .i64 w_.model.traits, v_w__1, v_w__2, Value.int .i64 w_.model.need, v_w__4]), v_x_0]) w fun e w' => e = .returned (Value.int .i64 r0) ∧ InK .i64 r0 ∧ Ext w w' := by
 have hI := Hp.start (Mu := []) hM
 refine calls_cw Tryz.func12 rfl Tryz.ntmps12 rfl ?_
 refine cw_seq (cw_regF ?_)
 refine y_box hI rfl rfl rfl ?_
 intro b1 w2 hI3 x4
 have hC6 := hI3.freezeRow 0 rfl
 have hI5 := hI3.erase 0
 refine s_as rfl rfl ?_
 refine Reg.nil ?_
 refine cw_seq (cw_seq (cw_regF ?_))
 refine s_fa rfl Tryz.underlying48 rfl Tryz.sizeOf46 rfl ?_
 refine s_ld rfl (hC6.cells.at 4 rfl) Tryz.isAgg46 rfl ?_
 refine s_len rfl (f_w__4.adv hI5.adv) Tryz.underlying46 rfl ?_
 refine s_mv rfl rfl ?_
 refine Reg.nil ?_
 obtain ⟨j7, h8, h⟩ := bnd h
 refine cw_sub (L := [(1, _), (4, _), (8, _), (9, _), (10, _)]) (Sub.cons rfl (Sub.cons rfl (Sub.cons rfl (Sub.cons rfl (Sub.cons rfl (Sub.nil _)))))) ?_
 refine cw_unitD 5 (ι := Int) (fun x9 => [(4, Value.int .i64 x9)]) (fun x9 => fun w11 => Hp w [] M [] w11 ∧ Adv (mm [] M) (mm [] M) w2 w11 ∧ InK .i64 x9 ∧ x9 = j7) ?_ ?_
 ·skip
  refine cw_block ?_
  refine cw_sub (L := [(4, _), (10, _), (1, _), (8, _), (9, _)]) (Sub.cons rfl (Sub.cons rfl (Sub.cons rfl (Sub.cons rfl (Sub.cons rfl (Sub.nil _)))))) ?_
  refine cw_loopM 2 (ι := Int × Int) _ (fun ⟨x14, x16⟩ => [(4, Value.int .i64 x14), (10, Value.int .i64 x16)]) (fun ⟨x14, x16⟩ => (x14, x16)) (fun ⟨x14, x16⟩ => fun w18 => Hp w [] M [] w18 ∧ Adv (mm [] M) (mm [] M) w2 w18 ∧ InK .i64 x14 ∧ InK .i64 x16) (0, 0) h8 ⟨hI5, (Adv.refl _ _), (by decide), (by decide)⟩ (Sub.cons rfl (Sub.cons rfl (Sub.cons rfl (Sub.cons rfl (Sub.cons rfl (Sub.nil _)))))) ?_
  rintro ⟨x14, x16⟩ w18 ⟨hI19, hA20, r15, r17⟩ y21 h22 hR23
  refine cw_seq (cw_regF ?_)
  refine s_lss rfl rfl rfl ?_
  refine Reg.nil ?_
  refine cw_seq ?_
  refine cw_cond rfl (fun hc24 => ?_) (fun hc24 => ?_)
  ·replace h22 := cdT hc24 h22
   refine cw_skip ?_
   refine cw_seq ?_
   refine cw_block ?_
   refine cw_seq (cw_regF ?_)
   obtain ⟨y25, hy25, h22⟩ := bnd h22
   refine p_ia rfl rfl (f_w__4.adv hI19.adv) hy25 Tryz.underlying46 Tryz.sizeOf70 rfl ?_
   intro b26 o27 cs28 hR29 hC30
   obtain ⟨v31, rfl, hf32⟩ := I70E_one hR29
   refine s_ld rfl (hC30.cells.at 0 rfl) Tryz.isAgg70 rfl ?_
   refine s_as rfl rfl ?_
   refine Reg.nil ?_
   refine cw_regF ?_
   refine s_mv rfl rfl ?_
   refine s_mv rfl rfl ?_
   obtain ⟨z33, hz33, h22⟩ := bnd h22
   refine s_invD rfl rfl rfl ?_
   refine (C_M70_weight (fun _ _ => by kernel_rfl) (fun _ _ => by kernel_rfl) hI19.mlt hf32 hz33).mono ?_
   rintro _ w34 ⟨rfl, r36, e35⟩
   refine ⟨_, rfl, ?_⟩
   have hI37 := hI19.ext e35
   refine s_mv rfl rfl ?_
   refine s_mv rfl rfl ?_
   obtain ⟨z38, hz38, h22⟩ := bnd h22
   refine s_invD rfl rfl rfl ?_
   refine (C_M70_points (fun _ _ => by kernel_rfl) (fun _ _ => by kernel_rfl) hI37.mlt (I70E.adv hf32 (Adv.of_ext e35)) (f_x_0.adv hI37.adv) hz38).mono ?_
   rintro _ w39 ⟨rfl, r41, e40⟩
   refine ⟨_, rfl, ?_⟩
   have hI42 := hI37.ext e40
   obtain ⟨n43, hn43, h22⟩ := bnd h22
   replace hn43 := chk_out hn43
   refine p_mul rfl rfl rfl hn43 ?_
   obtain ⟨n44, hn44, h22⟩ := bnd h22
   replace hn44 := chk_out hn44
   refine p_add rfl rfl rfl hn44 ?_
   refine s_as rfl rfl ?_
   refine Reg.nil ?_
   refine cw_regF ?_
   obtain ⟨n45, hn45, h22⟩ := bnd h22
   replace hn45 := chk_out hn45
   refine p_add rfl rfl rfl hn45 ?_
   refine s_mv rfl rfl ?_
   refine Reg.nil ?_
   obtain rfl := Option.some.inj h22
   refine ⟨rfl, (n44, n45), ⟨⟨hI42, (hA20.trans ((Adv.of_ext e35).trans (Adv.of_ext e40))), hn44.2, hn45.2⟩, rfl⟩, Sub.cons rfl (Sub.cons rfl (Sub.cons rfl (Sub.cons rfl (Sub.cons rfl (Sub.nil _)))))⟩
  ·replace h22 := cdF hc24 h22
   refine cw_exit ?_
   refine exB_same ?_
   obtain rfl := Option.some.inj h22
   obtain rfl := hR23 _ rfl
   refine ⟨rfl, x14, ⟨hI19, hA20, r15, rfl⟩, Sub.cons rfl (Sub.nil _)⟩
 ·skip
  rintro x9 w11 ⟨hI12, hA13, r10, rfl⟩
  refine cw_seq (cw_regF ?_)
  refine s_mv rfl rfl ?_
  refine s_as rfl rfl ?_
  refine Reg.nil ?_
  refine cw_ret ?_
  obtain rfl := Option.some.inj h
  refine fin1 Tryz.results12 rfl ?_
  exact ⟨rfl, r10, hI12.kp⟩
noncomputable def P.score_works_enough (w_ : Works) (score : Int) : Option Bool :=
 Option.bind (chk .i64 (w_.model.need * 1000)) fun n7 => some (decide (n7 ≤ score))
theorem C_score_works_enough {M : List Nat} {w : World} (hM : MLt M w) {w_ : Works} {v_w__1 : Value} {v_w__2 : Value} {v_w__4 : Value} (f_w__0 : InK .i64 w_.model.traits) (f_w__1 : RdS CardE M w v_w__1 w_.model.cards) (f_w__2 : RdS TreeE M w v_w__2 w_.model.trees) (f_w__3 : InK .i64 w_.model.need) (f_w__4 : RdS I70E M w v_w__4 w_.parts) {score : Int} (f_score_0 : InK .i64 score) {r0 : Bool} (h : P.score_works_enough w_ score = some r0) :
  Calls Tryz.prog 11 (List.toArray [Value.agg (List.toArray [Value.int .i64 w_.model.traits, v_w__1, v_w__2, Value.int .i64 w_.model.need, v_w__4]), Value.int .i64 score]) w fun e w' => e = .returned (Value.bool r0) ∧ Ext w w' := by
 have hI := Hp.start (Mu := []) hM
 refine calls_cw Tryz.func11 rfl Tryz.ntmps11 rfl ?_
 refine cw_seq (cw_regF ?_)
 refine y_box hI rfl rfl rfl ?_
 intro b1 w2 hI3 x4
 have hC6 := hI3.freezeRow 0 rfl
 have hI5 := hI3.erase 0
 refine s_as rfl rfl ?_
 refine Reg.nil ?_
 refine cw_seq (cw_regF ?_)
 refine s_mv rfl rfl ?_
 refine s_fa rfl Tryz.underlying48 rfl Tryz.sizeOf25 rfl ?_
 refine s_fa rfl Tryz.underlying25 rfl Tryz.sizeOf3 rfl ?_
 refine s_ld rfl (hC6.cells.at 3 rfl) Tryz.isAgg3 rfl ?_
 obtain ⟨n7, hn7, h⟩ := bnd h
 replace hn7 := chk_out hn7
 refine p_mul rfl rfl rfl hn7 ?_
 refine s_geq rfl rfl rfl ?_
 refine s_as rfl rfl ?_
 refine Reg.nil ?_
 refine cw_ret ?_
 obtain rfl := Option.some.inj h
 refine fin1 Tryz.results11 rfl ?_
 exact ⟨rfl, hI5.kp⟩
end Go.Proofs.YtecmlmngcnionaaGreat
namespace Go.Sx
open Go Go.RowKit
def openE {α : Type} (E : Enc α) : Enc (α ⊕ List Value) where
  n := E.n
  pos := E.pos
  R := fun M w cs x => match x with
    | .inl a => E.R M w cs a
    | .inr ds => cs = ds ∧ ds.length = E.n ∧ ∀ u ∈ ds, u.oneCell' = true
  len := fun {M w cs x} h => by
    cases x with
    | inl a => exact E.len h
    | inr ds => obtain ⟨rfl, h, _⟩ := h; exact h
  kp := fun {M w w' cs x} hk h => by
    cases x with
    | inl a => exact E.kp hk h
    | inr ds => exact h
  mon := fun {M M' w cs x} hm h => by
    cases x with
    | inl a => exact E.mon hm h
    | inr ds => exact h
  one := fun {M w cs x} h u hu => by
    cases x with
    | inl a => exact E.one h u hu
    | inr ds => obtain ⟨rfl, _, h⟩ := h; exact h u hu
def opn {α : Type} (xs : List α) (j : Int) (ds : List Value) : List (α ⊕ List Value) := (xs.map Sum.inl).set j.toNat (.inr ds)
theorem opn_len {α : Type} (xs : List α) (j : Int) (ds : List Value) : (opn xs j ds).length = xs.length := by simp [opn]
theorem Chunks.inl {α : Type} {E : Enc α} {M : List Nat} {w : World} : ∀ {cs : List Value} {xs : List α}, Chunks E M w cs xs → Chunks (openE E) M w cs (xs.map Sum.inl)
  | _, [], h => h
  | _, _ :: _, ⟨c, rest, h, hR, hr⟩ => ⟨c, rest, h, hR, Chunks.inl hr⟩
theorem Chunks.outl {α : Type} {E : Enc α} {M : List Nat} {w : World} : ∀ {cs : List Value} {xs : List α}, Chunks (openE E) M w cs (xs.map Sum.inl) → Chunks E M w cs xs
  | _, [], h => h
  | _, _ :: _, ⟨c, rest, h, hR, hr⟩ => ⟨c, rest, h, hR, Chunks.outl hr⟩
theorem Chunks.shut {α : Type} {E : Enc α} {M : List Nat} {w : World} {ds : List Value} {z : α} (hz : E.R M w ds z) : ∀ {cs : List Value} {xs : List α} (j : Nat), Chunks (openE E) M w cs ((xs.map Sum.inl).set j (.inr ds)) → Chunks E M w cs (xs.set j z)
  | _, [], _, h => h
  | _, x :: xs, 0, ⟨c, rest, h, hR, hr⟩ => by
    obtain ⟨rfl, _, _⟩ := hR
    exact ⟨_, rest, h, hz, Chunks.outl hr⟩
  | _, x :: xs, j + 1, ⟨c, rest, h, hR, hr⟩ => ⟨c, rest, h, hR, Chunks.shut hz j hr⟩
theorem Own.opens {α : Type} {E : Enc α} {e Bb : Nat} {M : List Nat} {w : World} {v : Value} {xs : List α} (h : Own E e Bb M w v xs) : Own (openE E) e Bb M w v (xs.map Sum.inl) := by
  rcases h with ⟨a, rfl, rfl⟩ | ⟨g, cap, cur, rfl, h1, h2, h3, h4, h5, h6⟩
  · exact Or.inl ⟨a, rfl, rfl⟩
  · exact Or.inr ⟨g, cap, cur, by simp, h1, h2, by simpa using h3, h4, h5, by rw [List.length_map]; exact Chunks.inl h6⟩
theorem Own.shut {α : Type} {E : Enc α} {e Bb : Nat} {M : List Nat} {w : World} {v : Value} {xs : List α} {j : Int} {ds : List Value} {z : α} (hz : E.R (ob v ++ M) w ds z) (h : Own (openE E) e Bb M w v (opn xs j ds)) : Own E e Bb M w v (xs.set j.toNat z) := by
  rcases h with ⟨a, rfl, hx⟩ | ⟨g, cap, cur, rfl, h1, h2, h3, h4, h5, h6⟩
  · refine .inl ⟨a, rfl, ?_⟩
    have := congrArg List.length hx
    rw [opn_len] at this
    have hx0 : xs = [] := List.eq_nil_of_length_eq_zero (by simpa using this)
    subst hx0; rfl
  · rw [opn_len] at h3 h6
    refine .inr ⟨g, cap, cur, by rw [opn_len, List.length_set], h1, h2, by rw [List.length_set]; exact h3, h4, h5, ?_⟩
    rw [List.length_set]
    exact Chunks.shut hz _ h6
theorem setAt_one : ∀ (cs : List Value) (o : Nat) (vs : List Value), (∀ u ∈ cs, u.oneCell' = true) → (∀ u ∈ vs, u.oneCell' = true) → ∀ u ∈ setAt cs o vs, u.oneCell' = true
  | cs, o, [], h, _ => by cases cs <;> exact h
  | [], _, _ :: _, _, _ => fun u hu => by cases hu
  | c :: r, 0, v :: vs, h, hv => fun u hu => by
    rcases List.mem_cons.1 hu with rfl | hu
    · exact hv _ (by simp)
    · exact setAt_one r 0 vs (fun u hu => h u (List.mem_cons_of_mem _ hu)) (fun u hu => hv u (List.mem_cons_of_mem _ hu)) u hu
  | c :: r, n + 1, v :: vs, h, hv => fun u hu => by
    rcases List.mem_cons.1 hu with rfl | hu
    · exact h _ (by simp)
    · exact setAt_one r n (v :: vs) (fun u hu => h u (List.mem_cons_of_mem _ hu)) hv u hu
theorem set_set {σ : List Res} {i : Nat} {r r' : Res} : (σ.set i r).set i r' = σ.set i r' := List.set_set ..
section
variable {P : Program} {N : Nat} {ops : Array Oper} {q : Md} {rest : List Oper} {ds : List Deferred} {L : Env} {w w0 : World} {A B : Out} {X : Nat → Out} {Z : List PanicEntry → Out} {d : Nat} {ty : TypeId} {pos : String} {af : Array Edge} {Mu M : List Nat} {σ : List Res}
/-- A store into an element, which is open from now on. -/
theorem y_stOpen (i : Nat) {α : Type} {E : Enc α} {e t : TypeId} {x y : Operand} {v u : Value} {xs : List α} {j : Int} {g o n : Nat} {cs vs : List Value} {z : α} (hI : Hp w0 Mu M σ w) (hi : σ[i]? = some (ownR [] E e v xs))
    (hx : ev L x = some (.pointer (some ⟨g, j.toNat * E.n + o, none⟩))) (hy : ev L y = some u) (hu : u.cells = vs.toArray) (hg : ob v = [g]) (hz : ixo xs j = some z) (hR : E.R (mm σ M) w cs z) (hC : Cells w g (j.toNat * E.n) cs)
    (hl : Nat.ble (o + vs.length) cs.length = true) (hsz : ∀ w, (sizeOf t).run P w = .ok n w) (hn : vs.length = n) (h1 : ∀ u ∈ vs, u.oneCell' = true)
    (h : ∀ w', Hp w0 Mu M (σ.set i (ownR [] (openE E) e v (opn xs j (setAt cs o vs)))) w' → Adv (mm σ M) (mm (σ.set i (ownR [] (openE E) e v (opn xs j (setAt cs o vs)))) M) w w' → Reg P N ops .seq rest ds L w' A B X Z) :
    Reg P N ops .seq (⟨none, .store t x y, ty, pos, af, none⟩ :: rest) ds L w A B X Z := by
  obtain ⟨h0, hj, hzz⟩ := ixo_out hz
  have hil : i < σ.length := by
    rcases Nat.lt_or_ge i σ.length with h1 | h1
    · exact h1
    · rw [List.getElem?_eq_none h1] at hi; cases hi
  have hI1 : Hp w0 Mu M (σ.set i (ownR [] (openE E) e v (xs.map Sum.inl))) w := hI.upd i hi (Kp.refl _ _) (fun b hb => .inl hb) rfl fun M' hM' => ((hI.ownAt i hi).opens).mon hM'
  have hA1 : Adv (mm σ M) (mm (σ.set i (ownR [] (openE E) e v (xs.map Sum.inl))) M) w w := hI.updA (r' := ownR [] (openE E) e v (xs.map Sum.inl)) i hi (Kp.refl _ _) fun b hb => .inl hb
  refine y_sto i (E := openE E) (xs := xs.map Sum.inl) (l := opn xs j (setAt cs o vs)) (z := .inl z) (z' := .inr (setAt cs o vs)) (cs := cs) (mu := []) (e := e) hI1 (by simp [hil]) hx hy hu hg ?_ (E.adv hR hA1) hC ?_ hl hsz hn h1 fun w' hI2 hA2 => ?_
  · simp [seto, opn, h0, hj]
  · exact ⟨rfl, by rw [setAt_len]; exact E.len hR, setAt_one _ _ _ (E.one hR) h1⟩
  · rw [set_set] at hI2 hA2
    exact h w' hI2 (hA1.trans hA2)
/-- The address of the open element. -/
theorem y_iaOpen (i : Nat) {α : Type} {E : Enc α} {e' t e : TypeId} {x y : Operand} {v : Value} {xs : List α} {k : IntKind} {j : Int} {z : α} {cs : List Value} (hI : Hp w0 Mu M σ w) (hi : σ[i]? = some (ownR [] (openE E) e' v (opn xs j cs)))
    (hx : ev L x = some v) (hy : ev L y = some (.int k j)) (hz : ixo xs j = some z) (ht : P.underlying t = some (.slice e)) (hs : ∀ w, (sizeOf e).run P w = .ok E.n w) (hN : Nat.blt d N = true)
    (h : ∀ g, ob v = [g] → Cells w g (j.toNat * E.n) cs → Reg P N ops q rest ds ((d, .pointer (some ⟨g, j.toNat * E.n, none⟩)) :: L) w A B X Z) :
    Reg P N ops q (⟨some d, .indexAddr t x y, ty, pos, af, none⟩ :: rest) ds L w A B X Z := by
  obtain ⟨h0, hj, hzz⟩ := ixo_out hz
  refine y_ia i (E := openE E) (z := .inr cs) hI hi hx hy ?_ ht hs hN fun g cs' hg hR hC => ?_
  · have hjn : j.toNat < xs.length := by omega
    exact ixo_some h0 (by simp [opn, hjn])
  · obtain ⟨rfl, _⟩ := hR
    exact h g hg hC
theorem Hp.shut (h : Hp w0 Mu M σ w) (i : Nat) {α : Type} {E : Enc α} {e : TypeId} {v : Value} {xs : List α} {j : Int} {cs : List Value} {z : α} (hi : σ[i]? = some (ownR [] (openE E) e v (opn xs j cs))) (hR : E.R (mm σ M) w cs z) : Hp w0 Mu M (σ.set i (ownR [] E e v (xs.set j.toNat z))) w :=
  h.upd i hi (Kp.refl _ _) (fun b hb => .inl hb) rfl fun M' hM' => ((h.ownAt i hi).shut (E.mon (fun b hb => .inl ((List.mem_append.1 hb).elim (h.ownSub i hi b) id)) hR)).mon hM'
theorem Hp.shutA (h : Hp w0 Mu M σ w) (i : Nat) {α : Type} {E : Enc α} {e : TypeId} {v : Value} {xs : List α} {j : Int} {cs : List Value} {z : α} (hi : σ[i]? = some (ownR [] (openE E) e v (opn xs j cs))) : Adv (mm σ M) (mm (σ.set i (ownR [] E e v (xs.set j.toNat z))) M) w w :=
  h.updA (r' := ownR [] E e v (xs.set j.toNat z)) i hi (Kp.refl _ _) fun b hb => .inl hb
end
end Go.Sx
set_option maxRecDepth 20000
namespace Go.Proofs.YtecmlmngcnionaaGreat
open Go Go.Sx Go.RowKit
noncomputable def P.ref06_Twin (m : Model) : Option Model :=
 Option.bind (appo 40 ([] : List Card) m.cards) fun l13 => Option.bind (loopM (S := Int × (List Card)) (R := ((List Card))) (fun (x21, x22) => cond (decide (x21 < (x22.length : Int))) (Option.bind (ixo x22 x21) fun y25 => Option.bind (appo 56 ([] : List Scale) y25.scales) fun l42 => Option.bind (ixo x22 x21) fun y51 => Option.bind (loopM (S := Int × (List Scale)) (R := ((List Scale))) (fun (x80, x81) => cond (decide (x80 < (x81.length : Int))) (Option.bind (ixo x81 x80) fun y89 => Option.bind (appo 8 ([] : List Int) y89.cuts) fun l109 => Option.bind (appo 8 ([] : List Int) y89.points) fun l121 => Option.bind (seto x81 x80 (Scale.mk l109 y89.points y89.none_)) fun l146 => Option.bind (seto l146 x80 (Scale.mk ((Scale.mk l109 y89.points y89.none_).cuts) l121 ((Scale.mk l109 y89.points y89.none_).none_))) fun l169 => Option.bind (chk .i64 (x80 + 1)) fun n176 => some (.inl (n176, l169))) (some (.inr x81))) (0, l42)) fun x177 => Option.bind (chk .i64 (x21 + 1)) fun n178 => some (.inl (n178, (x22.set x21.toNat (Card.mk y51.weight y51.base x177))))) (some (.inr x22))) (0, l13)) fun x182 => Option.bind (appo 32 ([] : List Tree) m.trees) fun l187 => Option.bind (loopM (S := Int × (List Tree)) (R := ((List Tree))) (fun (x195, x196) => cond (decide (x195 < (x196.length : Int))) (Option.bind (ixo x196 x195) fun y199 => Option.bind (appo 40 ([] : List Node) y199.nodes) fun l215 => Option.bind (ixo x196 x195) fun y224 => Option.bind (seto x196 x195 (Tree.mk y224.weight l215)) fun l247 => Option.bind (chk .i64 (x195 + 1)) fun n254 => some (.inl (n254, l247))) (some (.inr x196))) (0, l187)) fun x255 => some (Model.mk m.traits x182 x255 m.need)
theorem C_ref06_Twin {M : List Nat} {w : World} (hM : MLt M w) {m : Model} {v_m_1 : Value} {v_m_2 : Value} (f_m_0 : InK .i64 m.traits) (f_m_1 : RdS CardE M w v_m_1 m.cards) (f_m_2 : RdS TreeE M w v_m_2 m.trees) (f_m_3 : InK .i64 m.need) {r0 : Model} (h : P.ref06_Twin m = some r0) :
  Calls Tryz.prog 5 (List.toArray [Value.agg (List.toArray [Value.int .i64 m.traits, v_m_1, v_m_2, Value.int .i64 m.need])]) w fun e w' => ∃ v0_1 : Value, ∃ v0_2 : Value, e = .returned (Value.agg (List.toArray [Value.int .i64 r0.traits, v0_1, v0_2, Value.int .i64 r0.need])) ∧ InK .i64 r0.traits ∧ RdS CardE M w' v0_1 r0.cards ∧ RdS TreeE M w' v0_2 r0.trees ∧ InK .i64 r0.need ∧ Ext w w' := by
 have hI := Hp.start (Mu := []) hM
 refine calls_cw Tryz.func5 rfl Tryz.ntmps5 rfl ?_
 refine cw_seq (cw_regF ?_)
 refine y_box hI rfl rfl rfl ?_
 intro b1 w2 hI3 x4
 refine y_al hI3 Tryz.zeroValue25 rfl rfl ?_
 intro b5 w6 hI7 x8
 refine Reg.nil ?_
 refine cw_seq (cw_regF ?_)
 refine y_bs (E := CardE) (xs := []) sl22 hI7 rfl rfl Cls.nil Chs.nil rfl rfl ?_
 intro v9 w10 hI11 x12
 refine s_fa rfl Tryz.underlying25 rfl Tryz.sizeOf22 rfl ?_
 refine s_ld rfl ((hI11.row 2 rfl).rd.cells.at 1 rfl) Tryz.isAgg22 rfl ?_
 obtain ⟨l13, hl13, h⟩ := bnd h
 obtain ⟨hbl13, el13⟩ := appo_out hl13
 refine y_app 0 sl22 hI11 rfl rfl rfl (f_m_1.adv hI11.adv) hbl13 rfl ?_
 rw [← el13]
 intro v14 w15 hI16 x17
 refine s_fa rfl Tryz.underlying25 rfl Tryz.sizeOf22 rfl ?_
 refine y_st 2 hI16 rfl rfl rfl (Own.cells1 (hI16.ownAt 0 rfl)) Tryz.sizeOf22 rfl rfl (one1 (Own.oneC (hI16.ownAt 0 rfl)) one0) ?_
 intro w18 hI19 x20
 refine Reg.nil ?_
 refine cw_seq (cw_seq (cw_regF ?_))
 refine s_as rfl rfl ?_
 refine Reg.nil ?_
 obtain ⟨j21, h22, h⟩ := bnd h
 refine cw_sub (L := [(3, _), (1, _), (2, _)]) (Sub.cons rfl (Sub.cons rfl (Sub.cons rfl (Sub.nil _)))) ?_
 refine cw_unitD 1 (ι := (List Card)) (fun x23 => []) (fun x23 => fun w24 => Hp w [] M [ownR [] CardE 39 v14 x23, rowR 25 b5 [Value.int .i64 0, Value.slice none 0 0, Value.slice none 0 0, Value.int .i64 0], rowR 25 b1 [Value.int .i64 m.traits, v14, v_m_2, Value.int .i64 m.need]] w24 ∧ Adv (mm [ownR [] CardE 39 v14 l13, rowR 25 b5 [Value.int .i64 0, Value.slice none 0 0, Value.slice none 0 0, Value.int .i64 0], rowR 25 b1 [Value.int .i64 m.traits, v14, v_m_2, Value.int .i64 m.need]] M) (mm [ownR [] CardE 39 v14 x23, rowR 25 b5 [Value.int .i64 0, Value.slice none 0 0, Value.slice none 0 0, Value.int .i64 0], rowR 25 b1 [Value.int .i64 m.traits, v14, v_m_2, Value.int .i64 m.need]] M) w18 w24 ∧ x23 = j21) ?_ ?_
 ·skip
  refine cw_block ?_
  refine cw_sub (L := [(3, _), (1, _), (2, _)]) (Sub.cons rfl (Sub.cons rfl (Sub.cons rfl (Sub.nil _)))) ?_
  refine cw_loopM 1 (ι := Int × (List Card)) _ (fun ⟨x27, x29⟩ => [(3, Value.int .i64 x27)]) (fun ⟨x27, x29⟩ => (x27, x29)) (fun ⟨x27, x29⟩ => fun w30 => Hp w [] M [ownR [] CardE 39 v14 x29, rowR 25 b5 [Value.int .i64 0, Value.slice none 0 0, Value.slice none 0 0, Value.int .i64 0], rowR 25 b1 [Value.int .i64 m.traits, v14, v_m_2, Value.int .i64 m.need]] w30 ∧ Adv (mm [ownR [] CardE 39 v14 l13, rowR 25 b5 [Value.int .i64 0, Value.slice none 0 0, Value.slice none 0 0, Value.int .i64 0], rowR 25 b1 [Value.int .i64 m.traits, v14, v_m_2, Value.int .i64 m.need]] M) (mm [ownR [] CardE 39 v14 x29, rowR 25 b5 [Value.int .i64 0, Value.slice none 0 0, Value.slice none 0 0, Value.int .i64 0], rowR 25 b1 [Value.int .i64 m.traits, v14, v_m_2, Value.int .i64 m.need]] M) w18 w30 ∧ InK .i64 x27) (0, l13) h22 ⟨hI19, (Adv.refl _ _), (by decide)⟩ (Sub.cons rfl (Sub.cons rfl (Sub.cons rfl (Sub.nil _)))) ?_
  rintro ⟨x27, x29⟩ w30 ⟨hI31, hA32, r28⟩ y33 h34 hR35
  refine cw_seq (cw_seq (cw_regF ?_))
  refine s_mv rfl rfl ?_
  refine s_fa rfl Tryz.underlying25 rfl Tryz.sizeOf22 rfl ?_
  refine s_ld rfl ((hI31.row 2 rfl).rd.cells.at 1 rfl) Tryz.isAgg22 rfl ?_
  refine s_lenO rfl (hI31.ownAt 0 rfl) Tryz.underlying22 rfl ?_
  refine s_lss rfl rfl rfl ?_
  refine Reg.nil ?_
  refine cw_cond rfl (fun hc36 => ?_) (fun hc36 => ?_)
  ·replace h34 := cdT hc36 h34
   refine cw_skip ?_
   refine cw_seq ?_
   refine cw_block ?_
   refine cw_seq ?_
   refine cw_regSea [0, 1, 2, 3, 4, 5, 6, 7, 8, 9] [10, 11, 12, 13] [22] [13] [[13, 0], [13, 1], [13, 3], [13, 4], [13, 5], [13, 7], [13, 8], [13, 9]] [(22, .p fun v _ => KLit v)] fol (by kernel_rfl) rfl (by kernel_rfl) rfl rfl ?_
   refine s_fa rfl Tryz.underlying25 rfl Tryz.sizeOf22 rfl ?_
   refine s_ld rfl ((hI31.row 2 rfl).rd.cells.at 1 rfl) Tryz.isAgg22 rfl ?_
   refine s_mv rfl rfl ?_
   refine Reg.relX KLit rfl rfl rfl ?_ ?_
   ·intro w37 e37; refine s_bs0 sl37 rfl ?_; intro a37 w37_ x37; exact Reg.nil ⟨rfl, x37, _, rfl, ⟨_, rfl⟩, trivial⟩
   refine s_fa rfl Tryz.underlying25 rfl Tryz.sizeOf22 rfl ?_
   refine s_ld rfl ((hI31.row 2 rfl).rd.cells.at 1 rfl) Tryz.isAgg22 rfl ?_
   refine s_mv rfl rfl ?_
   obtain ⟨y38, hy38, h34⟩ := bnd h34
   refine y_ia 0 hI31 rfl rfl rfl hy38 Tryz.underlying22 Tryz.sizeOf39 rfl ?_
   intro g39 cs40 hg41 hR42 hC43
   have khR42 := hR42
   obtain ⟨v46, rfl, r44, r45, hf47⟩ := CardE_R.1 hR42
   refine s_fa rfl Tryz.underlying39 rfl Tryz.sizeOf37 rfl ?_
   refine s_ld rfl (hC43.at 2 rfl) Tryz.isAgg37 rfl ?_
   refine Reg.nilX ⟨rfl, rfl, rfl, ?_⟩
   intro w48 e49
   have hI50 := (Hp.start (Mu := []) hI31.mlt).ext e49
   refine SeaWalk.step [10] (by kernel_rfl) (AllL.cons ?_ (AllL.nil))
   refine ⟨_, [(22, _)], rfl, RSub.cons rfl rfl (RSub.nil), rfl, nodupB_spec rfl, ?_⟩
   simp only [relOut]
   intro u51 k52 s53
   have hI54 := hI50.addLit ScaleE 41 k52
   obtain ⟨l55, hl55, h34⟩ := bnd h34
   obtain ⟨hbl55, el55⟩ := appo_out hl55
   refine y_app 0 sl37 hI54 rfl rfl rfl (hf47.adv ((Adv.of_ext e49).trans (Hp.addLitA (σ := []) ScaleE 41 k52))) hbl55 rfl ?_
   rw [← el55]
   intro v56 w57 hI58 x59
   refine Reg.nilS (L0 := [(1, _), (2, _), (3, _), (20, _), (21, _), (29, _)]) (Sub.cons rfl (Sub.cons rfl (Sub.cons rfl (Sub.cons rfl (Sub.cons rfl (Sub.cons rfl (Sub.nil _))))))) ⟨rfl, .inr hI58.kp, rfl, ?_⟩
   intro w60 e61
   have hI62 := hI58.ext e61
   refine SeaWalk.step [11] (by kernel_rfl) (AllL.cons ?_ (AllL.nil))
   refine ⟨_, [], rfl, RSub.nil, rfl, nodupB_spec rfl, ?_⟩
   simp only [relOut]
   have hI63 := hI31.join hI62
   obtain ⟨y64, hy64, h34⟩ := bnd h34
   refine y_ia 1 hI63 rfl rfl rfl hy64 Tryz.underlying22 Tryz.sizeOf39 rfl ?_
   intro g65 cs66 hg67 hR68 hC69
   have khR68 := hR68
   obtain ⟨v72, rfl, r70, r71, hf73⟩ := CardE_R.1 hR68
   refine Reg.nil ⟨rfl, .inr hI62.kp, rfl, ?_⟩
   intro w74 e75
   have hI76 := hI63.ext e75
   refine SeaWalk.step [12] (by kernel_rfl) (AllL.cons ?_ (AllL.nil))
   refine ⟨_, [], rfl, RSub.nil, rfl, nodupB_spec rfl, ?_⟩
   simp only [relOut]
   refine s_fa rfl Tryz.underlying39 rfl Tryz.sizeOf37 rfl ?_
   refine Reg.nil ⟨rfl, .inr ((hI62.kp).trans e75), rfl, ?_⟩
   intro w77 e78
   have hI79 := hI76.ext e78
   refine SeaWalk.step [13] (by kernel_rfl) (AllL.cons ?_ (AllL.nil))
   refine ⟨_, [], rfl, RSub.nil, rfl, nodupB_spec rfl, ?_⟩
   simp only [relOut]
   obtain ⟨cs80, hR81, hC82⟩ := (hI79.ownAt 1 rfl).cellsAt hg67 (ixo_out hy64).2.2
   have khR81 := hR81
   obtain ⟨v85, rfl, r83, r84, hf86⟩ := CardE_R.1 hR81
   refine y_stOpen 1 (E := CardE) (o := 2) hI79 rfl rfl rfl (Own.cells1 (hI79.ownAt 0 rfl)) hg67 hy64 ((CardE_R (x := y64)).2 ⟨_, rfl, r83, r84, hf86⟩) hC82 rfl Tryz.sizeOf37 rfl (one1 (Own.oneC (hI79.ownAt 0 rfl)) one0) ?_
   intro w87 hI88 x89
   refine Reg.nil ⟨rfl, .inl rfl, rfl, ?_⟩
   intro w90 e91
   have hI92 := hI88.ext e91
   refine SeaWalk.done ?_
   refine cw_seq (cw_regF ?_)
   refine s_as rfl rfl ?_
   refine Reg.nil ?_
   obtain ⟨j93, h94, h34⟩ := bnd h34
   refine cw_sub (L := [(4, _), (1, _), (2, _), (3, _)]) (Sub.cons rfl (Sub.cons rfl (Sub.cons rfl (Sub.cons rfl (Sub.nil _))))) ?_
   refine cw_unitD 1 (ι := (List Scale)) (fun x95 => []) (fun x95 => fun w96 => Hp w [] M [ownR [] ScaleE 41 v56 x95, ownR [] (openE CardE) 39 v14 (opn x29 x27 [Value.int .i64 y64.weight, Value.int .i64 y64.base, v56]), rowR 25 b5 [Value.int .i64 0, Value.slice none 0 0, Value.slice none 0 0, Value.int .i64 0], rowR 25 b1 [Value.int .i64 m.traits, v14, v_m_2, Value.int .i64 m.need]] w96 ∧ Adv (mm [ownR [] ScaleE 41 v56 l55, ownR [] (openE CardE) 39 v14 (opn x29 x27 [Value.int .i64 y64.weight, Value.int .i64 y64.base, v56]), rowR 25 b5 [Value.int .i64 0, Value.slice none 0 0, Value.slice none 0 0, Value.int .i64 0], rowR 25 b1 [Value.int .i64 m.traits, v14, v_m_2, Value.int .i64 m.need]] M) (mm [ownR [] ScaleE 41 v56 x95, ownR [] (openE CardE) 39 v14 (opn x29 x27 [Value.int .i64 y64.weight, Value.int .i64 y64.base, v56]), rowR 25 b5 [Value.int .i64 0, Value.slice none 0 0, Value.slice none 0 0, Value.int .i64 0], rowR 25 b1 [Value.int .i64 m.traits, v14, v_m_2, Value.int .i64 m.need]] M) w90 w96 ∧ x95 = j93) ?_ ?_
   ·skip
    refine cw_block ?_
    refine cw_sub (L := [(4, _), (1, _), (2, _), (3, _)]) (Sub.cons rfl (Sub.cons rfl (Sub.cons rfl (Sub.cons rfl (Sub.nil _))))) ?_
    refine cw_loopM 1 (ι := Int × (List Scale)) _ (fun ⟨x99, x101⟩ => [(4, Value.int .i64 x99)]) (fun ⟨x99, x101⟩ => (x99, x101)) (fun ⟨x99, x101⟩ => fun w102 => Hp w [] M [ownR [] ScaleE 41 v56 x101, ownR [] (openE CardE) 39 v14 (opn x29 x27 [Value.int .i64 y64.weight, Value.int .i64 y64.base, v56]), rowR 25 b5 [Value.int .i64 0, Value.slice none 0 0, Value.slice none 0 0, Value.int .i64 0], rowR 25 b1 [Value.int .i64 m.traits, v14, v_m_2, Value.int .i64 m.need]] w102 ∧ Adv (mm [ownR [] ScaleE 41 v56 l55, ownR [] (openE CardE) 39 v14 (opn x29 x27 [Value.int .i64 y64.weight, Value.int .i64 y64.base, v56]), rowR 25 b5 [Value.int .i64 0, Value.slice none 0 0, Value.slice none 0 0, Value.int .i64 0], rowR 25 b1 [Value.int .i64 m.traits, v14, v_m_2, Value.int .i64 m.need]] M) (mm [ownR [] ScaleE 41 v56 x101, ownR [] (openE CardE) 39 v14 (opn x29 x27 [Value.int .i64 y64.weight, Value.int .i64 y64.base, v56]), rowR 25 b5 [Value.int .i64 0, Value.slice none 0 0, Value.slice none 0 0, Value.int .i64 0], rowR 25 b1 [Value.int .i64 m.traits, v14, v_m_2, Value.int .i64 m.need]] M) w90 w102 ∧ InK .i64 x99) (0, l55) h94 ⟨hI92, (Adv.refl _ _), (by decide)⟩ (Sub.cons rfl (Sub.cons rfl (Sub.cons rfl (Sub.cons rfl (Sub.nil _))))) ?_
    rintro ⟨x99, x101⟩ w102 ⟨hI103, hA104, r100⟩ y105 h106 hR107
    refine cw_seq (cw_seq (cw_regF ?_))
    refine s_mv rfl rfl ?_
    refine s_fa rfl Tryz.underlying25 rfl Tryz.sizeOf22 rfl ?_
    refine s_ld rfl ((hI103.row 3 rfl).rd.cells.at 1 rfl) Tryz.isAgg22 rfl ?_
    refine s_mv rfl rfl ?_
    refine y_iaOpen 1 hI103 rfl rfl rfl hy64 Tryz.underlying22 Tryz.sizeOf39 rfl ?_
    intro g108 hg109 hC110
    refine s_fa rfl Tryz.underlying39 rfl Tryz.sizeOf37 rfl ?_
    refine s_ld rfl (hC110.at 2 rfl) Tryz.isAgg37 rfl ?_
    refine s_lenO rfl (hI103.ownAt 0 rfl) Tryz.underlying37 rfl ?_
    refine s_lss rfl rfl rfl ?_
    refine Reg.nil ?_
    refine cw_cond rfl (fun hc111 => ?_) (fun hc111 => ?_)
    ·replace h106 := cdT hc111 h106
     refine cw_skip ?_
     refine cw_seq ?_
     refine cw_block ?_
     refine cw_seq (cw_regF ?_)
     refine s_fa rfl Tryz.underlying25 rfl Tryz.sizeOf22 rfl ?_
     refine s_ld rfl ((hI103.row 3 rfl).rd.cells.at 1 rfl) Tryz.isAgg22 rfl ?_
     refine s_mv rfl rfl ?_
     refine y_iaOpen 1 hI103 rfl rfl rfl hy64 Tryz.underlying22 Tryz.sizeOf39 rfl ?_
     intro g112 hg113 hC114
     refine s_fa rfl Tryz.underlying39 rfl Tryz.sizeOf37 rfl ?_
     refine s_ld rfl (hC114.at 2 rfl) Tryz.isAgg37 rfl ?_
     refine s_mv rfl rfl ?_
     obtain ⟨y115, hy115, h106⟩ := bnd h106
     refine y_ia 0 hI103 rfl rfl rfl hy115 Tryz.underlying37 Tryz.sizeOf41 rfl ?_
     intro g116 cs117 hg118 hR119 hC120
     have khR119 := hR119
     obtain ⟨v121, v123, rfl, hf122, hf124, r125⟩ := ScaleE_R.1 hR119
     refine s_as rfl rfl ?_
     refine Reg.nil ?_
     refine cw_regSea [0, 1, 2, 3, 4, 5, 6, 8, 9, 10, 11, 12] [7, 13, 14, 15, 16, 17, 18, 19] [53, 59] [16, 19] [[16, 2], [16, 4], [16, 5], [16, 6], [16, 13, 8], [16, 12, 11, 10], [19, 2], [19, 4], [19, 5], [19, 6], [19, 8], [19, 10], [19, 11], [19, 12]] [(59, .p fun v _ => KLit v), (53, .p fun v _ => KLit v)] fol (by kernel_rfl) rfl (by kernel_rfl) rfl rfl ?_
     refine s_mv rfl rfl ?_
     refine s_mv rfl rfl ?_
     refine Reg.relX KLit rfl rfl rfl ?_ ?_
     ·intro w126 e126; refine s_bs0 sl26 rfl ?_; intro a126 w126_ x126; exact Reg.nil ⟨rfl, x126, _, rfl, ⟨_, rfl⟩, trivial⟩
     refine s_mv rfl rfl ?_
     refine s_nc rfl rfl ?_
     refine s_fa rfl Tryz.underlying41 rfl Tryz.sizeOf26 rfl ?_
     refine s_ld rfl (hC120.at 0 rfl) Tryz.isAgg26 rfl ?_
     refine Reg.relX KLit rfl rfl rfl ?_ ?_
     ·intro w127 e127; refine s_bs0 sl26 rfl ?_; intro a127 w127_ x127; exact Reg.nil ⟨rfl, x127, _, rfl, ⟨_, rfl⟩, trivial⟩
     refine s_mv rfl rfl ?_
     refine s_nc rfl rfl ?_
     refine s_fa rfl Tryz.underlying41 rfl Tryz.sizeOf26 rfl ?_
     refine s_ld rfl (hC120.at 1 rfl) Tryz.isAgg26 rfl ?_
     refine Reg.nilX ⟨rfl, rfl, rfl, ?_⟩
     intro w128 e129
     have hI130 := (Hp.start (Mu := []) hI103.mlt).ext e129
     refine SeaWalk.step [7] (by kernel_rfl) (AllL.cons ?_ (AllL.nil))
     refine ⟨_, [(53, _)], rfl, RSub.cons rfl rfl (RSub.nil), rfl, nodupB_spec rfl, ?_⟩
     simp only [relOut]
     intro u131 k132 s133
     have hI134 := hI130.addLit (intE .i64) 3 k132
     obtain ⟨l135, hl135, h106⟩ := bnd h106
     obtain ⟨hbl135, el135⟩ := appo_out hl135
     refine y_app 0 sl26 hI134 rfl rfl rfl (hf122.adv ((Adv.of_ext e129).trans (Hp.addLitA (σ := []) (intE .i64) 3 k132))) hbl135 rfl ?_
     rw [← el135]
     intro v136 w137 hI138 x139
     refine Reg.nilS (L0 := [(1, _), (2, _), (3, _), (4, _), (51, _), (52, _), (58, _), (63, _)]) (Sub.cons rfl (Sub.cons rfl (Sub.cons rfl (Sub.cons rfl (Sub.cons rfl (Sub.cons rfl (Sub.cons rfl (Sub.cons rfl (Sub.nil _))))))))) ⟨rfl, .inr hI138.kp, rfl, ?_⟩
     intro w140 e141
     have hI142 := hI138.ext e141
     refine SeaWalk.step [13] (by kernel_rfl) (AllL.cons ?_ (AllL.nil))
     refine ⟨_, [(59, _)], rfl, RSub.cons rfl rfl (RSub.nil), rfl, nodupB_spec rfl, ?_⟩
     simp only [relOut]
     intro u143 k144 s145
     have hI146 := hI142.addLit (intE .i64) 3 k144
     obtain ⟨l147, hl147, h106⟩ := bnd h106
     obtain ⟨hbl147, el147⟩ := appo_out hl147
     refine y_app 0 sl26 hI146 rfl rfl rfl (hf124.adv ((Adv.of_ext e129).trans ((Hp.addLitA (σ := []) (intE .i64) 3 k132).trans (x139.trans ((Adv.of_ext e141).trans (Hp.addLitA (σ := [ownR [] (intE .i64) 3 v136 l135]) (intE .i64) 3 k144)))))) hbl147 rfl ?_
     rw [← el147]
     intro v148 w149 hI150 x151
     refine Reg.nilS (L0 := [(1, _), (2, _), (3, _), (4, _), (51, _), (52, _), (58, _), (64, _)]) (Sub.cons rfl (Sub.cons rfl (Sub.cons rfl (Sub.cons rfl (Sub.cons rfl (Sub.cons rfl (Sub.cons rfl (Sub.cons rfl (Sub.nil _))))))))) ⟨rfl, .inr hI150.kp, rfl, ?_⟩
     intro w152 e153
     have hI154 := hI150.ext e153
     refine SeaWalk.step [14] (by kernel_rfl) (AllL.cons ?_ (AllL.nil))
     refine ⟨_, [], rfl, RSub.nil, rfl, nodupB_spec rfl, ?_⟩
     simp only [relOut]
     have hI155 := hI103.join hI154
     refine s_nc rfl rfl ?_
     refine Reg.nil ⟨rfl, .inr hI154.kp, rfl, ?_⟩
     intro w156 e157
     have hI158 := hI155.ext e157
     refine SeaWalk.step [15] (by kernel_rfl) (AllL.cons ?_ (AllL.nil))
     refine ⟨_, [], rfl, RSub.nil, rfl, nodupB_spec rfl, ?_⟩
     simp only [relOut]
     refine s_fa rfl Tryz.underlying41 rfl Tryz.sizeOf26 rfl ?_
     refine Reg.nil ⟨rfl, .inr ((hI154.kp).trans e157), rfl, ?_⟩
     intro w159 e160
     have hI161 := hI158.ext e160
     refine SeaWalk.step [16] (by kernel_rfl) (AllL.cons ?_ (AllL.nil))
     refine ⟨_, [], rfl, RSub.nil, rfl, nodupB_spec rfl, ?_⟩
     simp only [relOut]
     have hf162 := hI161.freeze 1 rfl
     have hI163 := hI161.erase 1
     obtain ⟨cs164, hR165, hC166⟩ := (hI163.ownAt 1 rfl).cellsAt hg118 (ixo_out hy115).2.2
     have khR165 := hR165
     obtain ⟨v167, v169, rfl, hf168, hf170, r171⟩ := ScaleE_R.1 hR165
     obtain ⟨l172, hl172, h106⟩ := bnd h106
     refine y_sto 1 (E := ScaleE) (o := 0) hI163 rfl rfl rfl (RdS.cells1 hf162) hg118 hl172 ((ScaleE_R (x := y115)).2 ⟨_, _, rfl, hf168, hf170, r171⟩) hC166 ((ScaleE_R (x := (Scale.mk l135 y115.points y115.none_))).2 ⟨_, _, rfl, hf162, hf170, r171⟩) rfl Tryz.sizeOf26 rfl (one1 (RdS.oneC hf162) one0) ?_
     intro w173 hI174 x175
     refine Reg.nil ⟨rfl, .inl rfl, rfl, ?_⟩
     intro w176 e177
     have hI178 := hI174.ext e177
     refine SeaWalk.step [17] (by kernel_rfl) (AllL.cons ?_ (AllL.nil))
     refine ⟨_, [], rfl, RSub.nil, rfl, nodupB_spec rfl, ?_⟩
     simp only [relOut]
     refine s_nc rfl rfl ?_
     refine Reg.nil ⟨rfl, .inl rfl, rfl, ?_⟩
     intro w179 e180
     have hI181 := hI178.ext e180
     refine SeaWalk.step [18] (by kernel_rfl) (AllL.cons ?_ (AllL.nil))
     refine ⟨_, [], rfl, RSub.nil, rfl, nodupB_spec rfl, ?_⟩
     simp only [relOut]
     refine s_fa rfl Tryz.underlying41 rfl Tryz.sizeOf26 rfl ?_
     refine Reg.nil ⟨rfl, .inl rfl, rfl, ?_⟩
     intro w182 e183
     have hI184 := hI181.ext e183
     refine SeaWalk.step [19] (by kernel_rfl) (AllL.cons ?_ (AllL.nil))
     refine ⟨_, [], rfl, RSub.nil, rfl, nodupB_spec rfl, ?_⟩
     simp only [relOut]
     have hf185 := hI184.freeze 0 rfl
     have hI186 := hI184.erase 0
     obtain ⟨cs187, hR188, hC189⟩ := (hI186.ownAt 0 rfl).cellsAt hg118 (ixo_out (seto_get hl172)).2.2
     have khR188 := hR188
     obtain ⟨v190, v192, rfl, hf191, hf193, r194⟩ := ScaleE_R.1 hR188
     obtain ⟨l195, hl195, h106⟩ := bnd h106
     refine y_sto 0 (E := ScaleE) (o := 1) hI186 rfl rfl rfl (RdS.cells1 hf185) hg118 hl195 ((ScaleE_R (x := (Scale.mk l135 y115.points y115.none_))).2 ⟨_, _, rfl, hf191, hf193, r194⟩) hC189 ((ScaleE_R (x := (Scale.mk ((Scale.mk l135 y115.points y115.none_).cuts) l147 ((Scale.mk l135 y115.points y115.none_).none_)))).2 ⟨_, _, rfl, hf191, hf185, r194⟩) rfl Tryz.sizeOf26 rfl (one1 (RdS.oneC hf185) one0) ?_
     intro w196 hI197 x198
     refine Reg.nil ⟨rfl, .inl rfl, rfl, ?_⟩
     intro w199 e200
     have hI201 := hI197.ext e200
     refine SeaWalk.done ?_
     refine cw_regF ?_
     refine s_mv rfl rfl ?_
     obtain ⟨n202, hn202, h106⟩ := bnd h106
     replace hn202 := chk_out hn202
     refine p_add rfl rfl rfl hn202 ?_
     refine s_as rfl rfl ?_
     refine Reg.nil ?_
     obtain rfl := Option.some.inj h106
     refine ⟨rfl, (n202, l195), ⟨⟨hI201, (hA104.trans ((Adv.of_ext e129).trans ((Hp.addLitA (σ := []) (intE .i64) 3 k132).trans (x139.trans ((Adv.of_ext e141).trans ((Hp.addLitA (σ := [ownR [] (intE .i64) 3 v136 l135]) (intE .i64) 3 k144).trans (x151.trans ((Adv.of_ext e153).trans ((Adv.of_ext e157).trans ((Adv.of_ext e160).trans ((Hp.eraseA (σ := [ownR [] (intE .i64) 3 v148 l147, ownR [] (intE .i64) 3 v136 l135, ownR [] ScaleE 41 v56 x101, ownR [] (openE CardE) 39 v14 (opn x29 x27 [Value.int .i64 y64.weight, Value.int .i64 y64.base, v56]), rowR 25 b5 [Value.int .i64 0, Value.slice none 0 0, Value.slice none 0 0, Value.int .i64 0], rowR 25 b1 [Value.int .i64 m.traits, v14, v_m_2, Value.int .i64 m.need]]) 1).trans (x175.trans ((Adv.of_ext e177).trans ((Adv.of_ext e180).trans ((Adv.of_ext e183).trans ((Hp.eraseA (σ := [ownR [] (intE .i64) 3 v148 l147, ownR [] ScaleE 41 v56 l172, ownR [] (openE CardE) 39 v14 (opn x29 x27 [Value.int .i64 y64.weight, Value.int .i64 y64.base, v56]), rowR 25 b5 [Value.int .i64 0, Value.slice none 0 0, Value.slice none 0 0, Value.int .i64 0], rowR 25 b1 [Value.int .i64 m.traits, v14, v_m_2, Value.int .i64 m.need]]) 0).trans (x198.trans (Adv.of_ext e200)))))))))))))))))), hn202.2⟩, rfl⟩, Sub.cons rfl (Sub.cons rfl (Sub.cons rfl (Sub.cons rfl (Sub.nil _))))⟩
    ·replace h106 := cdF hc111 h106
     refine cw_exit ?_
     refine exB_same ?_
     obtain rfl := Option.some.inj h106
     obtain rfl := hR107 _ rfl
     refine ⟨rfl, x101, ⟨hI103, hA104, rfl⟩, Sub.cons rfl (Sub.cons rfl (Sub.cons rfl (Sub.nil _)))⟩
   ·skip
    rintro x95 w96 ⟨hI97, hA98, rfl⟩
    refine cw_regF ?_
    refine s_mv rfl rfl ?_
    obtain ⟨n203, hn203, h34⟩ := bnd h34
    replace hn203 := chk_out hn203
    refine p_add rfl rfl rfl hn203 ?_
    refine s_as rfl rfl ?_
    refine Reg.nil ?_
    obtain rfl := Option.some.inj h34
    have hf204 := hI97.freeze 0 rfl
    have hI205 := hI97.erase 0
    have hI206 := hI205.shut 0 (E := CardE) (z := (Card.mk y64.weight y64.base x95)) rfl ((CardE_R (x := (Card.mk y64.weight y64.base x95))).2 ⟨_, rfl, r83, r84, hf204⟩)
    refine ⟨rfl, (n203, (x29.set x27.toNat (Card.mk y64.weight y64.base x95))), ⟨⟨hI206, (hA32.trans ((Adv.of_ext e49).trans ((Hp.addLitA (σ := []) ScaleE 41 k52).trans (x59.trans ((Adv.of_ext e61).trans ((Adv.of_ext e75).trans ((Adv.of_ext e78).trans (x89.trans ((Adv.of_ext e91).trans (hA98.trans ((Hp.eraseA (σ := [ownR [] ScaleE 41 v56 x95, ownR [] (openE CardE) 39 v14 (opn x29 x27 [Value.int .i64 y64.weight, Value.int .i64 y64.base, v56]), rowR 25 b5 [Value.int .i64 0, Value.slice none 0 0, Value.slice none 0 0, Value.int .i64 0], rowR 25 b1 [Value.int .i64 m.traits, v14, v_m_2, Value.int .i64 m.need]]) 0).trans (hI205.shutA 0 (E := CardE) (z := (Card.mk y64.weight y64.base x95)) rfl)))))))))))), hn203.2⟩, rfl⟩, Sub.cons rfl (Sub.cons rfl (Sub.cons rfl (Sub.nil _)))⟩
  ·replace h34 := cdF hc36 h34
   refine cw_exit ?_
   refine exB_same ?_
   obtain rfl := Option.some.inj h34
   obtain rfl := hR35 _ rfl
   refine ⟨rfl, x29, ⟨hI31, hA32, rfl⟩, Sub.cons rfl (Sub.cons rfl (Sub.nil _))⟩
 ·skip
  rintro x23 w24 ⟨hI25, hA26, rfl⟩
  refine cw_seq (cw_regF ?_)
  refine y_bs (E := TreeE) (xs := []) sl23 hI25 rfl rfl Cls.nil Chs.nil rfl rfl ?_
  intro v207 w208 hI209 x210
  refine s_fa rfl Tryz.underlying25 rfl Tryz.sizeOf23 rfl ?_
  refine s_ld rfl ((hI209.row 3 rfl).rd.cells.at 2 rfl) Tryz.isAgg23 rfl ?_
  obtain ⟨l211, hl211, h⟩ := bnd h
  obtain ⟨hbl211, el211⟩ := appo_out hl211
  refine y_app 0 sl23 hI209 rfl rfl rfl (f_m_2.adv hI209.adv) hbl211 rfl ?_
  rw [← el211]
  intro v212 w213 hI214 x215
  refine s_fa rfl Tryz.underlying25 rfl Tryz.sizeOf23 rfl ?_
  refine y_st 3 hI214 rfl rfl rfl (Own.cells1 (hI214.ownAt 0 rfl)) Tryz.sizeOf23 rfl rfl (one1 (Own.oneC (hI214.ownAt 0 rfl)) one0) ?_
  intro w216 hI217 x218
  refine Reg.nil ?_
  refine cw_seq (cw_seq (cw_regF ?_))
  refine s_as rfl rfl ?_
  refine Reg.nil ?_
  obtain ⟨j219, h220, h⟩ := bnd h
  refine cw_sub (L := [(6, _), (1, _), (2, _)]) (Sub.cons rfl (Sub.cons rfl (Sub.cons rfl (Sub.nil _)))) ?_
  refine cw_unitD 1 (ι := (List Tree)) (fun x221 => []) (fun x221 => fun w222 => Hp w [] M [ownR [] TreeE 44 v212 x221, ownR [] CardE 39 v14 x23, rowR 25 b5 [Value.int .i64 0, Value.slice none 0 0, Value.slice none 0 0, Value.int .i64 0], rowR 25 b1 [Value.int .i64 m.traits, v14, v212, Value.int .i64 m.need]] w222 ∧ Adv (mm [ownR [] TreeE 44 v212 l211, ownR [] CardE 39 v14 x23, rowR 25 b5 [Value.int .i64 0, Value.slice none 0 0, Value.slice none 0 0, Value.int .i64 0], rowR 25 b1 [Value.int .i64 m.traits, v14, v212, Value.int .i64 m.need]] M) (mm [ownR [] TreeE 44 v212 x221, ownR [] CardE 39 v14 x23, rowR 25 b5 [Value.int .i64 0, Value.slice none 0 0, Value.slice none 0 0, Value.int .i64 0], rowR 25 b1 [Value.int .i64 m.traits, v14, v212, Value.int .i64 m.need]] M) w216 w222 ∧ x221 = j219) ?_ ?_
  ·skip
   refine cw_block ?_
   refine cw_sub (L := [(6, _), (1, _), (2, _)]) (Sub.cons rfl (Sub.cons rfl (Sub.cons rfl (Sub.nil _)))) ?_
   refine cw_loopM 1 (ι := Int × (List Tree)) _ (fun ⟨x225, x227⟩ => [(6, Value.int .i64 x225)]) (fun ⟨x225, x227⟩ => (x225, x227)) (fun ⟨x225, x227⟩ => fun w228 => Hp w [] M [ownR [] TreeE 44 v212 x227, ownR [] CardE 39 v14 x23, rowR 25 b5 [Value.int .i64 0, Value.slice none 0 0, Value.slice none 0 0, Value.int .i64 0], rowR 25 b1 [Value.int .i64 m.traits, v14, v212, Value.int .i64 m.need]] w228 ∧ Adv (mm [ownR [] TreeE 44 v212 l211, ownR [] CardE 39 v14 x23, rowR 25 b5 [Value.int .i64 0, Value.slice none 0 0, Value.slice none 0 0, Value.int .i64 0], rowR 25 b1 [Value.int .i64 m.traits, v14, v212, Value.int .i64 m.need]] M) (mm [ownR [] TreeE 44 v212 x227, ownR [] CardE 39 v14 x23, rowR 25 b5 [Value.int .i64 0, Value.slice none 0 0, Value.slice none 0 0, Value.int .i64 0], rowR 25 b1 [Value.int .i64 m.traits, v14, v212, Value.int .i64 m.need]] M) w216 w228 ∧ InK .i64 x225) (0, l211) h220 ⟨hI217, (Adv.refl _ _), (by decide)⟩ (Sub.cons rfl (Sub.cons rfl (Sub.cons rfl (Sub.nil _)))) ?_
   rintro ⟨x225, x227⟩ w228 ⟨hI229, hA230, r226⟩ y231 h232 hR233
   refine cw_seq (cw_seq (cw_regF ?_))
   refine s_mv rfl rfl ?_
   refine s_fa rfl Tryz.underlying25 rfl Tryz.sizeOf23 rfl ?_
   refine s_ld rfl ((hI229.row 3 rfl).rd.cells.at 2 rfl) Tryz.isAgg23 rfl ?_
   refine s_lenO rfl (hI229.ownAt 0 rfl) Tryz.underlying23 rfl ?_
   refine s_lss rfl rfl rfl ?_
   refine Reg.nil ?_
   refine cw_cond rfl (fun hc234 => ?_) (fun hc234 => ?_)
   ·replace h232 := cdT hc234 h232
    refine cw_skip ?_
    refine cw_seq ?_
    refine cw_block ?_
    refine cw_regSea [0, 1, 2, 3, 4, 5, 6, 7, 8, 9] [10, 11, 12, 13] [84] [13] [[13, 0], [13, 1], [13, 3], [13, 4], [13, 5], [13, 7], [13, 8], [13, 9]] [(84, .p fun v _ => KLit v)] fol (by kernel_rfl) rfl (by kernel_rfl) rfl rfl ?_
    refine s_fa rfl Tryz.underlying25 rfl Tryz.sizeOf23 rfl ?_
    refine s_ld rfl ((hI229.row 3 rfl).rd.cells.at 2 rfl) Tryz.isAgg23 rfl ?_
    refine s_mv rfl rfl ?_
    refine Reg.relX KLit rfl rfl rfl ?_ ?_
    ·intro w235 e235; refine s_bs0 sl42 rfl ?_; intro a235 w235_ x235; exact Reg.nil ⟨rfl, x235, _, rfl, ⟨_, rfl⟩, trivial⟩
    refine s_fa rfl Tryz.underlying25 rfl Tryz.sizeOf23 rfl ?_
    refine s_ld rfl ((hI229.row 3 rfl).rd.cells.at 2 rfl) Tryz.isAgg23 rfl ?_
    refine s_mv rfl rfl ?_
    obtain ⟨y236, hy236, h232⟩ := bnd h232
    refine y_ia 0 hI229 rfl rfl rfl hy236 Tryz.underlying23 Tryz.sizeOf44 rfl ?_
    intro g237 cs238 hg239 hR240 hC241
    have khR240 := hR240
    obtain ⟨v243, rfl, r242, hf244⟩ := TreeE_R.1 hR240
    refine s_fa rfl Tryz.underlying44 rfl Tryz.sizeOf42 rfl ?_
    refine s_ld rfl (hC241.at 1 rfl) Tryz.isAgg42 rfl ?_
    refine Reg.nilX ⟨rfl, rfl, rfl, ?_⟩
    intro w245 e246
    have hI247 := (Hp.start (Mu := []) hI229.mlt).ext e246
    refine SeaWalk.step [10] (by kernel_rfl) (AllL.cons ?_ (AllL.nil))
    refine ⟨_, [(84, _)], rfl, RSub.cons rfl rfl (RSub.nil), rfl, nodupB_spec rfl, ?_⟩
    simp only [relOut]
    intro u248 k249 s250
    have hI251 := hI247.addLit NodeE 66 k249
    obtain ⟨l252, hl252, h232⟩ := bnd h232
    obtain ⟨hbl252, el252⟩ := appo_out hl252
    refine y_app 0 sl42 hI251 rfl rfl rfl (hf244.adv ((Adv.of_ext e246).trans (Hp.addLitA (σ := []) NodeE 66 k249))) hbl252 rfl ?_
    rw [← el252]
    intro v253 w254 hI255 x256
    refine Reg.nilS (L0 := [(1, _), (2, _), (6, _), (82, _), (83, _), (91, _)]) (Sub.cons rfl (Sub.cons rfl (Sub.cons rfl (Sub.cons rfl (Sub.cons rfl (Sub.cons rfl (Sub.nil _))))))) ⟨rfl, .inr hI255.kp, rfl, ?_⟩
    intro w257 e258
    have hI259 := hI255.ext e258
    refine SeaWalk.step [11] (by kernel_rfl) (AllL.cons ?_ (AllL.nil))
    refine ⟨_, [], rfl, RSub.nil, rfl, nodupB_spec rfl, ?_⟩
    simp only [relOut]
    have hI260 := hI229.join hI259
    obtain ⟨y261, hy261, h232⟩ := bnd h232
    refine y_ia 1 hI260 rfl rfl rfl hy261 Tryz.underlying23 Tryz.sizeOf44 rfl ?_
    intro g262 cs263 hg264 hR265 hC266
    have khR265 := hR265
    obtain ⟨v268, rfl, r267, hf269⟩ := TreeE_R.1 hR265
    refine Reg.nil ⟨rfl, .inr hI259.kp, rfl, ?_⟩
    intro w270 e271
    have hI272 := hI260.ext e271
    refine SeaWalk.step [12] (by kernel_rfl) (AllL.cons ?_ (AllL.nil))
    refine ⟨_, [], rfl, RSub.nil, rfl, nodupB_spec rfl, ?_⟩
    simp only [relOut]
    refine s_fa rfl Tryz.underlying44 rfl Tryz.sizeOf42 rfl ?_
    refine Reg.nil ⟨rfl, .inr ((hI259.kp).trans e271), rfl, ?_⟩
    intro w273 e274
    have hI275 := hI272.ext e274
    refine SeaWalk.step [13] (by kernel_rfl) (AllL.cons ?_ (AllL.nil))
    refine ⟨_, [], rfl, RSub.nil, rfl, nodupB_spec rfl, ?_⟩
    simp only [relOut]
    have hf276 := hI275.freeze 0 rfl
    have hI277 := hI275.erase 0
    obtain ⟨cs278, hR279, hC280⟩ := (hI277.ownAt 0 rfl).cellsAt hg264 (ixo_out hy261).2.2
    have khR279 := hR279
    obtain ⟨v282, rfl, r281, hf283⟩ := TreeE_R.1 hR279
    obtain ⟨l284, hl284, h232⟩ := bnd h232
    refine y_sto 0 (E := TreeE) (o := 1) hI277 rfl rfl rfl (RdS.cells1 hf276) hg264 hl284 ((TreeE_R (x := y261)).2 ⟨_, rfl, r281, hf283⟩) hC280 ((TreeE_R (x := (Tree.mk y261.weight l252))).2 ⟨_, rfl, r281, hf276⟩) rfl Tryz.sizeOf42 rfl (one1 (RdS.oneC hf276) one0) ?_
    intro w285 hI286 x287
    refine Reg.nil ⟨rfl, .inl rfl, rfl, ?_⟩
    intro w288 e289
    have hI290 := hI286.ext e289
    refine SeaWalk.done ?_
    refine cw_regF ?_
    refine s_mv rfl rfl ?_
    obtain ⟨n291, hn291, h232⟩ := bnd h232
    replace hn291 := chk_out hn291
    refine p_add rfl rfl rfl hn291 ?_
    refine s_as rfl rfl ?_
    refine Reg.nil ?_
    obtain rfl := Option.some.inj h232
    refine ⟨rfl, (n291, l284), ⟨⟨hI290, (hA230.trans ((Adv.of_ext e246).trans ((Hp.addLitA (σ := []) NodeE 66 k249).trans (x256.trans ((Adv.of_ext e258).trans ((Adv.of_ext e271).trans ((Adv.of_ext e274).trans ((Hp.eraseA (σ := [ownR [] NodeE 66 v253 l252, ownR [] TreeE 44 v212 x227, ownR [] CardE 39 v14 x23, rowR 25 b5 [Value.int .i64 0, Value.slice none 0 0, Value.slice none 0 0, Value.int .i64 0], rowR 25 b1 [Value.int .i64 m.traits, v14, v212, Value.int .i64 m.need]]) 0).trans (x287.trans (Adv.of_ext e289)))))))))), hn291.2⟩, rfl⟩, Sub.cons rfl (Sub.cons rfl (Sub.cons rfl (Sub.nil _)))⟩
   ·replace h232 := cdF hc234 h232
    refine cw_exit ?_
    refine exB_same ?_
    obtain rfl := Option.some.inj h232
    obtain rfl := hR233 _ rfl
    refine ⟨rfl, x227, ⟨hI229, hA230, rfl⟩, Sub.cons rfl (Sub.cons rfl (Sub.nil _))⟩
  ·skip
   rintro x221 w222 ⟨hI223, hA224, rfl⟩
   refine cw_seq (cw_regF ?_)
   refine s_lda rfl (hI223.row 3 rfl).rd.cells Tryz.isAgg25 rfl Tryz.sizeOf25 rfl ?_
   refine y_st 2 hI223 rfl rfl rfl rfl Tryz.sizeOf25 rfl rfl (one1 rfl (one1 (Own.oneC (hI223.ownAt 1 rfl)) (one1 (Own.oneC (hI223.ownAt 0 rfl)) (one1 rfl one0)))) ?_
   intro w292 hI293 x294
   refine Reg.nil ?_
   refine cw_ret ?_
   obtain rfl := Option.some.inj h
   have hf295 := hI293.freeze 1 rfl
   have hI296 := hI293.erase 1
   have hf297 := hI296.freeze 0 rfl
   have hI298 := hI296.erase 0
   refine fin_any Tryz.results5 (AllRs.cons (RsOk.agg rfl (hI298.row 0 rfl).rd.cells Tryz.isAgg25 rfl Tryz.sizeOf25) (AllRs.nil)) rfl ?_
   exact ⟨_, _, rfl, f_m_0, ((hf295.adv (Hp.eraseA (σ := [ownR [] TreeE 44 v212 x221, rowR 25 b5 [Value.int .i64 m.traits, v14, v212, Value.int .i64 m.need], rowR 25 b1 [Value.int .i64 m.traits, v14, v212, Value.int .i64 m.need]]) 0)).adv (Hp.baseA (σ := [rowR 25 b5 [Value.int .i64 m.traits, v14, v212, Value.int .i64 m.need], rowR 25 b1 [Value.int .i64 m.traits, v14, v212, Value.int .i64 m.need]]))), (hf297.adv (Hp.baseA (σ := [rowR 25 b5 [Value.int .i64 m.traits, v14, v212, Value.int .i64 m.need], rowR 25 b1 [Value.int .i64 m.traits, v14, v212, Value.int .i64 m.need]]))), f_m_3, hI298.kp⟩
end Go.Proofs.YtecmlmngcnionaaGreat
namespace Go.Proofs.YtecmlmngcnionaaGreat
open Go Go.Sx
namespace S
theorem p_within (n lo hi : Int) : P.ref06_within n lo hi = some (decide (lo ≤ n ∧ n ≤ hi)) := by
  unfold P.ref06_within
  by_cases h : lo ≤ n <;> simp [h]
theorem p_points (n : Int) : P.ref06_points n = some (pt n) := by
  unfold P.ref06_points; rw [p_within]; rfl
theorem p_ints (a b : List Int) (h : a.length ≤ 9223372036854775806) : P.ref06_ints a b = some (decide (a = b)) := by
  unfold P.ref06_ints
  by_cases hl : (a.length : Int) = b.length
  · simp only [hl, decide_true, notT, condF]
    have hlen : a.length = b.length := by omega
    rw [← hl]
    rw [loop_any a (fun y i => !decide (b[i]? = some y)) (.inr false) (.inl ()) (fun i y hy => by
      have hi := get_lt hy
      obtain ⟨z, hb⟩ : ∃ z, b[i]? = some z := ⟨b[i]'(by omega), List.getElem?_eq_getElem (by omega)⟩
      simp only [ixo_at hy, ixo_at hb, lt_cast hi, chk_nat (i := i) (by omega), condT, bindS, hb]
      by_cases e : y = z
      · subst e; simp
      · have e' : ¬ z = y := fun h => e h.symm
        simp [e, e']) (by simp)]
    have : (a.zipIdx.any fun p => !decide (b[p.2]? = some p.1)) = !decide (a = b) := by
      rw [Bool.eq_iff_iff]
      simp only [List.any_eq_true, Bool.not_eq_true', decide_eq_false_iff_not]
      constructor
      · rintro ⟨p, hp, hne⟩ rfl
        exact hne (List.mem_zipIdx_iff_getElem?.1 hp)
      · intro hne
        refine Classical.byContradiction fun hall => hne ?_
        apply List.ext_getElem?
        intro i
        rcases Nat.lt_or_ge i a.length with hi | hi
        · have hy := List.getElem?_eq_getElem hi
          rw [hy]
          exact Eq.symm (Classical.byContradiction fun h9 => hall ⟨(a[i], i), List.mem_zipIdx_iff_getElem?.2 hy, h9⟩)
        · rw [List.getElem?_eq_none hi, List.getElem?_eq_none (by omega)]
    rw [this]
    by_cases e : a = b <;> simp [e]
  · have : a ≠ b := fun e => hl (by rw [e])
    simp [hl, this]
theorem p_same (a b : List Int) (h : a.length ≤ 9223372036854775806) : P.ref01_SameInts a b = some (decide (a = b)) := p_ints a b h
theorem p_scale (s : Scale) : P.ref06_scale s = some (scaleOk s) := by
  unfold P.ref06_scale
  by_cases h1 : 3 < s.cuts.length
  · have h1' : (3 : Int) < s.cuts.length := by omega
    have : scaleOk s = false := by simp [scaleOk]; omega
    simp [h1', this]
  · have h1' : ¬ (3 : Int) < s.cuts.length := by omega
    simp only [h1', decide_false, condF]
    rw [chk_i64 (by omega), bindS]
    by_cases h2 : (s.points.length : Int) = s.cuts.length + 1
    · simp only [h2, decide_true, notT, condF, p_points, bindS]
      cases h3 : pt s.none_ with
      | false => simp [scaleOk, h3]
      | true =>
        simp only [notT, condF]
        rw [loop_any s.cuts (fun y i => !decide (1 ≤ y ∧ y ≤ 1000000) || (decide (0 < i) && decide (y ≤ (s.cuts[i - 1]?).getD 0))) (.inr false) (.inl ()) (fun i y hy => by
          have hi := get_lt hy
          simp only [p_within]
          by_cases e1 : 1 ≤ y ∧ y ≤ 1000000
          · by_cases e2 : 0 < i
            · have hp : s.cuts[i - 1]? = some s.cuts[i - 1] := List.getElem?_eq_getElem (by omega)
              have e3 : ((i : Int) - 1) = ((i - 1 : Nat) : Int) := by omega
              have hc : chk .i64 ((i : Int) - 1) = some ((i - 1 : Nat) : Int) := by rw [chk_i64 (by omega), e3]
              simp only [ixo_at hy, lt_cast hi, chk_nat (i := i) (by omega), condT, bindS, hc, ixo_at hp, hp, Option.getD_some, e1, and_self, decide_true]
              by_cases e4 : y ≤ s.cuts[i - 1] <;> simp [e2, e4]
            · have e5 : ¬ (0 : Int) < i := by omega
              simp only [ixo_at hy, lt_cast hi, chk_nat (i := i) (by omega), condT, bindS, e1, and_self, decide_true]
              simp [e2]
          · simp only [ixo_at hy, lt_cast hi, chk_nat (i := i) (by omega), condT, bindS, e1, decide_false]
            simp) (by simp)]
        simp only [bindS]
        have hr : (s.cuts.zipIdx.any fun p => !decide (1 ≤ p.1 ∧ p.1 ≤ 1000000) || (decide (0 < p.2) && decide (p.1 ≤ (s.cuts[p.2 - 1]?).getD 0))) = !((s.cuts.all fun c => decide (1 ≤ c ∧ c ≤ 1000000)) && rising s.cuts) := by
          rw [Bool.eq_iff_iff]
          simp only [List.any_eq_true, Bool.or_eq_true, Bool.not_eq_true', decide_eq_false_iff_not, Bool.and_eq_true, decide_eq_true_eq, Bool.and_eq_false_iff]
          constructor
          · rintro ⟨⟨y, i⟩, hp, h | ⟨h, h'⟩⟩
            · left; rw [List.all_eq_false]; exact ⟨y, List.mem_of_getElem? (List.mem_zipIdx_iff_getElem?.1 hp), by simpa using h⟩
            · right
              refine Bool.eq_false_iff.2 fun hr => ?_
              have hy := List.mem_zipIdx_iff_getElem?.1 hp
              simp only at hy h h'
              have hi := get_lt hy
              have hq : s.cuts[i - 1]? = some s.cuts[i - 1] := List.getElem?_eq_getElem (by omega)
              have := (rising_iff _).1 hr (i - 1) _ y hq (by rw [show i - 1 + 1 = i by omega]; exact hy)
              rw [hq] at h'; simp at h'; omega
          · rintro (h | h)
            · rw [List.all_eq_false] at h
              obtain ⟨y, hy, hn⟩ := h
              obtain ⟨i, hi⟩ := List.getElem?_of_mem hy
              exact ⟨(y, i), List.mem_zipIdx_iff_getElem?.2 hi, .inl (by simpa using hn)⟩
            · refine Classical.byContradiction fun hall => ?_
              have : rising s.cuts = true := (rising_iff _).2 fun j c d hc hd => by
                refine Classical.byContradiction fun hlt => hall ⟨(d, j + 1), List.mem_zipIdx_iff_getElem?.2 hd, .inr ⟨by simp, ?_⟩⟩
                simp [hc]; omega
              rw [this] at h; cases h
        rw [hr]
        cases h4 : ((s.cuts.all fun c => decide (1 ≤ c ∧ c ≤ 1000000)) && rising s.cuts) with
        | false =>
          have : scaleOk s = false := by
            simp only [scaleOk, Bool.and_assoc]
            rw [← Bool.and_assoc (s.cuts.all _), h4]; simp
          simp [this]
        | true =>
          simp only [notT, condF, elimLS]
          have hpl : s.points.length = s.cuts.length + 1 := by omega
          rw [show ((s.cuts.length : Int) + 1) = (s.points.length : Int) by omega]
          rw [loop_any0 s.points (fun y => !pt y) (.inr false) (.inl ()) (fun i y hy => by
            have hi := get_lt hy
            simp only [ixo_at hy, lt_cast hi, chk_nat (i := i) (by omega), condT, bindS]
            cases e : pt y <;> simp) (by simp)]
          have h5 : scaleOk s = !(s.points.any fun y => !pt y) := by
            simp only [scaleOk, Bool.and_assoc]
            rw [← Bool.and_assoc (s.cuts.all _), h4, h3]
            have : s.cuts.length ≤ 3 := by omega
            simp [this, hpl, List.all_eq_not_any_not]
          rw [h5]
          cases (s.points.any fun y => !pt y) <;> rfl
    · have : scaleOk s = false := by
        simp only [scaleOk, Bool.and_eq_false_iff, decide_eq_false_iff_not]
        left; left; left; left; right; omega
      simp [h2, this]
end S
end Go.Proofs.YtecmlmngcnionaaGreat
namespace Go.Proofs.YtecmlmngcnionaaGreat
open Go Go.Sx
namespace S
theorem p_card (c : Card) (traits : Int) (h : c.scales.length ≤ 1000000) : P.ref06_card c traits = some (cardOk c traits) := by
  unfold P.ref06_card cardOk
  simp only [p_within, p_points, bindS]
  cases h1 : decide (0 ≤ c.weight ∧ c.weight ≤ 1000) with
  | false => simp only [notF, condT, bindS, Bool.false_and]
  | true =>
    simp only [notT, condF, Bool.true_and]
    cases h2 : pt c.base with
    | false => simp only [notF, condT, bindS, Bool.false_and]
    | true =>
      simp only [notT, condF, Bool.true_and]
      cases h3 : decide ((c.scales.length : Int) = traits) with
      | false => simp only [notF, condT, bindS, Bool.false_and]
      | true =>
        have h3 := of_decide_eq_true h3
        subst h3
        simp only [notT, condF, bindS, Bool.true_and]
        rw [loop_any0 c.scales (fun y => !scaleOk y) (.inr false) (.inl ()) (fun i y hy => by
          have hi := get_lt hy
          simp only [lt_cast hi, condT, ixo_at hy, bindS, p_scale, chk_nat (i := i) (by omega)]
          cases scaleOk y <;> simp) (by simp only [not_lt_cast, condF])]
        rw [List.all_eq_not_any_not]
        cases (c.scales.any fun y => !scaleOk y) <;> simp
theorem p_tree (t : Tree) (traits : Int) (h : t.nodes.length ≤ 1000000) (ht : 1 ≤ traits ∧ traits ≤ 5) : P.ref06_tree t traits = some (treeOk t traits) := by
  unfold P.ref06_tree treeOk
  simp only [p_within, p_points, bindS]
  have e1 : decide (1 ≤ (t.nodes.length : Int) ∧ (t.nodes.length : Int) ≤ 7) = decide (1 ≤ t.nodes.length ∧ t.nodes.length ≤ 7) := by
    rw [Bool.eq_iff_iff]; simp only [decide_eq_true_eq]; omega
  rw [e1]
  cases h1 : decide (0 ≤ t.weight ∧ t.weight ≤ 1000) with
  | false => simp only [notF, condT, bindS, Bool.false_and]
  | true =>
    simp only [notT, condF, Bool.true_and]
    cases h2 : decide (1 ≤ t.nodes.length ∧ t.nodes.length ≤ 7) with
    | false => simp only [notF, condT, bindS, Bool.false_and]
    | true =>
      simp only [notT, condF, bindS, Bool.true_and]
      rw [loop_any t.nodes (fun y i => !nodeOk traits t.nodes.length i y) (.inr false) (.inl ()) (fun i y hy => by
        have hi := get_lt hy
        have hc : chk .i64 (traits - 1) = some (traits - 1) := chk_i64 (by omega)
        simp only [lt_cast hi, condT, ixo_at hy, bindS, hc, chk_nat (i := i) (by omega), nodeOk]
        cases e1 : pt y.points with
        | false => simp only [notF, condT, bindS, elimRS, Bool.false_and]
        | true =>
          simp only [notT, condF, Bool.true_and]
          by_cases e2 : y.trait = -1
          · simp only [e2, decide_true, condT]
            by_cases e3 : y.cut = 0 <;> by_cases e4 : y.low = 0 <;> by_cases e5 : y.high = 0 <;> simp [e3, e4, e5]
          · have e2' : decide (y.trait = -1) = false := decide_eq_false e2
            simp only [e2', condF]
            have key : (bif !decide (0 ≤ y.trait ∧ y.trait ≤ traits - 1) then some true else bif !decide (1 ≤ y.cut ∧ y.cut ≤ 1000000) then some true else
                bif decide (y.low ≤ (i : Int)) then some true else bif decide (y.high ≤ (i : Int)) then some true else bif decide ((t.nodes.length : Int) ≤ y.low) then some true else
                bif decide ((t.nodes.length : Int) ≤ y.high) then some true else bif decide (y.low = y.high) then some true else some (!decide (y.points = 0))) =
                some (!decide (0 ≤ y.trait ∧ y.trait ≤ traits - 1 ∧ 1 ≤ y.cut ∧ y.cut ≤ 1000000 ∧ (i : Int) < y.low ∧ (i : Int) < y.high ∧ y.low < t.nodes.length ∧ y.high < t.nodes.length ∧ y.low ≠ y.high ∧ y.points = 0)) := by
              simp only [Bool.cond_eq_ite, Bool.not_eq_true', decide_eq_true_eq, decide_eq_false_iff_not]
              repeat' split
              all_goals (congr 1; rw [Bool.eq_iff_iff]; simp only [Bool.not_eq_true', decide_eq_false_iff_not, true_iff] <;> omega)
            rw [key]
            have e6 : decide (y.trait = -1 ∧ y.cut = 0 ∧ y.low = 0 ∧ y.high = 0) = false := by simp [e2]
            rw [e6, Bool.false_or]
            simp only [bindS]
            cases decide (0 ≤ y.trait ∧ y.trait ≤ traits - 1 ∧ 1 ≤ y.cut ∧ y.cut ≤ 1000000 ∧ (i : Int) < y.low ∧ (i : Int) < y.high ∧ y.low < t.nodes.length ∧ y.high < t.nodes.length ∧ y.low ≠ y.high ∧ y.points = 0) <;> simp) (by simp only [not_lt_cast, condF])]
      rw [List.all_eq_not_any_not]
      cases (t.nodes.zipIdx.any fun p => !nodeOk traits t.nodes.length p.2 p.1) <;> simp
theorem p_check (m : Model) (h1 : m.cards.length ≤ 6) (h2 : m.trees.length ≤ 6) (h3 : ∀ c ∈ m.cards, c.scales.length ≤ 10) (h4 : ∀ t ∈ m.trees, t.nodes.length ≤ 20) : P.ref06_Check m = some (check m) := by
  unfold P.ref06_Check check modelOk
  simp only [p_within, p_points, bindS]
  cases e1 : decide (1 ≤ m.traits ∧ m.traits ≤ 5) with
  | false => simp only [notF, condT, bindS, Bool.false_and, Bool.false_eq_true, if_false]
  | true =>
    have e1 := of_decide_eq_true e1
    simp only [notT, condF, Bool.true_and]
    cases e2 : pt m.need with
    | false => simp only [notF, condT, bindS, Bool.false_and, Bool.false_eq_true, if_false]
    | true =>
      simp only [notT, condF, Bool.true_and]
      by_cases e3 : m.cards.length ≤ 2
      · have e3' : decide ((2 : Int) < m.cards.length) = false := decide_eq_false (by omega)
        simp only [e3, e3', decide_true, condF, Bool.true_and]
        by_cases e4 : m.trees.length ≤ 2
        · have e4' : decide ((2 : Int) < m.trees.length) = false := decide_eq_false (by omega)
          simp only [e4, e4', decide_true, Bool.true_and]
          rw [loop_any0 m.cards (fun y => !cardOk y m.traits) (.inr 60) (.inl ()) (fun i y hy => by
            have hi := get_lt hy
            have := h3 y (List.mem_of_getElem? hy)
            simp only [lt_cast hi, condT, ixo_at hy, bindS, p_card y m.traits (by omega), chk_nat (i := i) (by omega)]
            cases cardOk y m.traits <;> simp) (by simp only [not_lt_cast, condF])]
          rw [List.all_eq_not_any_not (l := m.cards), List.all_eq_not_any_not (l := m.trees)]
          cases (m.cards.any fun y => !cardOk y m.traits) with
          | true => simp
          | false =>
            simp only [condF, bindS, elimLS, notF, Bool.true_and]
            rw [loop_any0 m.trees (fun y => !treeOk y m.traits) (.inr 60) (.inl ()) (fun i y hy => by
              have hi := get_lt hy
              have := h4 y (List.mem_of_getElem? hy)
              simp only [lt_cast hi, condT, ixo_at hy, bindS, p_tree y m.traits (by omega) e1, chk_nat (i := i) (by omega)]
              cases treeOk y m.traits <;> simp) (by simp only [not_lt_cast, condF])]
            cases (m.trees.any fun y => !treeOk y m.traits) <;> simp
        · have e4' : decide ((2 : Int) < m.trees.length) = true := decide_eq_true (by omega)
          simp only [e4, e4', decide_false, condT, bindS, Bool.false_and, Bool.false_eq_true, if_false]
      · have e3' : decide ((2 : Int) < m.cards.length) = true := decide_eq_true (by omega)
        simp only [e3, e3', decide_false, condT, bindS, Bool.false_and, Bool.false_eq_true, if_false]
theorem p_values (m : Model) (x : List Int) (h : x.length ≤ 1000000) : P.ref06_Values m x = some (valuesOk m x) := by
  unfold P.ref06_Values valuesOk
  cases e1 : decide ((x.length : Int) = m.traits) with
  | false => simp only [notF, condT, Bool.false_and]
  | true =>
    simp only [notT, condF, Bool.true_and]
    rw [loop_any0 x (fun y => !decide (-1 ≤ y ∧ y ≤ 1000000)) (.inr false) (.inl ()) (fun i y hy => by
      have hi := get_lt hy
      simp only [lt_cast hi, condT, ixo_at hy, bindS, p_within, chk_nat (i := i) (by omega)]
      cases decide (-1 ≤ y ∧ y ≤ 1000000) <;> simp) (by simp only [not_lt_cast, condF])]
    rw [List.all_eq_not_any_not]
    cases (x.any fun y => !decide (-1 ≤ y ∧ y ≤ 1000000)) <;> simp
theorem p_great (m : Model) : P.ref06_Great m = some (great m) := by
  unfold P.ref06_Great great
  by_cases e1 : 6 < m.cards.length
  · have e1' : decide ((6 : Int) < m.cards.length) = true := decide_eq_true (by omega)
    simp only [e1', condT, bindS, gt_iff_lt, e1, decide_true, Bool.true_or]
  · have e1' : decide ((6 : Int) < m.cards.length) = false := decide_eq_false (by omega)
    simp only [e1', condF, bindS, gt_iff_lt, e1, decide_false, Bool.false_or]
    by_cases e2 : 6 < m.trees.length
    · have e2' : decide ((6 : Int) < m.trees.length) = true := decide_eq_true (by omega)
      simp only [e2', condT, e2, decide_true, Bool.true_or]
    · have e2' : decide ((6 : Int) < m.trees.length) = false := decide_eq_false (by omega)
      simp only [e2', condF, e2, decide_false, Bool.false_or]
      rw [loop_any0 m.cards greatCard (.inr true) (.inl ()) (fun i y hy => by
        have hi := get_lt hy
        simp only [lt_cast hi, condT, ixo_at hy, bindS, greatCard]
        by_cases e3 : 10 < y.scales.length
        · have e3' : decide ((10 : Int) < y.scales.length) = true := decide_eq_true (by omega)
          simp only [e3', condT, gt_iff_lt, e3, decide_true, Bool.true_or]
        · have e3' : decide ((10 : Int) < y.scales.length) = false := decide_eq_false (by omega)
          simp only [e3', condF, gt_iff_lt, e3, decide_false, Bool.false_or]
          rw [loop_any0 y.scales greatScale (.inr true) (.inl ()) (fun k z hz => by
            have hk := get_lt hz
            simp only [lt_cast hk, condT, ixo_at hz, bindS, chk_nat (i := k) (by omega), greatScale]
            have a1 : decide ((10 : Int) < z.cuts.length) = decide (z.cuts.length > 10) := by rw [Bool.eq_iff_iff]; simp only [decide_eq_true_eq]; omega
            have a2 : decide ((12 : Int) < z.points.length) = decide (z.points.length > 12) := by rw [Bool.eq_iff_iff]; simp only [decide_eq_true_eq]; omega
            rw [a1, a2]
            cases decide (z.cuts.length > 10) <;> cases decide (z.points.length > 12) <;> simp) (by simp only [not_lt_cast, condF])]
          simp only [bindS, chk_nat (i := i) (by omega)]
          cases y.scales.any greatScale <;> simp) (by simp only [not_lt_cast, condF])]
      simp only [bindS]
      cases m.cards.any greatCard with
      | true => simp
      | false =>
        simp only [condF, elimLS, Bool.false_or]
        rw [loop_any0 m.trees greatTree (.inr true) (.inl ()) (fun i y hy => by
          have hi := get_lt hy
          simp only [lt_cast hi, condT, ixo_at hy, bindS, greatTree, chk_nat (i := i) (by omega)]
          have a1 : decide ((20 : Int) < y.nodes.length) = decide (y.nodes.length > 20) := by rw [Bool.eq_iff_iff]; simp only [decide_eq_true_eq]; omega
          rw [a1]
          cases decide (y.nodes.length > 20) <;> simp) (by simp only [not_lt_cast, condF])]
        cases m.trees.any greatTree <;> simp
end S
end Go.Proofs.YtecmlmngcnionaaGreat
namespace Go.Proofs.YtecmlmngcnionaaGreat
open Go Go.Sx
namespace S
theorem p_onScale (s : Scale) (x : Int) (hs : scaleOk s = true) : P.ref06_onScale s x = some (onScale s x) := by
  obtain ⟨hs1, hs2, hs3, hs4, hs5, hs6⟩ := scaleOk_iff.1 hs
  unfold P.ref06_onScale
  by_cases h : x = -1
  · have h' : decide (x = -1) = true := decide_eq_true h
    rw [h', condT]
    unfold onScale
    rw [if_pos h]
  · have h' : decide (x = -1) = false := decide_eq_false h
    simp only [h', condF]
    have hl := loop_fold s.cuts.length (fun i => (((s.cuts.take i).filter fun c => decide (c ≤ x)).length : Int)) (((s.cuts.take s.cuts.length).filter fun c => decide (c ≤ x)).length : Int)
      (body := fun (x8, x9) => cond (decide (x9 < (s.cuts.length : Int))) (Option.bind (Option.bind (ixo s.cuts x9) fun y11 => Option.bind (cond (decide (y11 ≤ x)) (Option.bind (chk .i64 (x8 + 1)) fun n19 => some n19) (some x8)) fun x20 => some x20) fun x21 => Option.bind (chk .i64 (x9 + 1)) fun n22 => some (.inl (x21, n22))) (some (.inr x8)))
      (fun i hi => by
        have hy := List.getElem?_eq_getElem hi
        have hc := cnt_le (l := s.cuts) (p := fun c => decide (c ≤ x)) (i := i)
        simp only [lt_cast hi, condT, ixo_at hy, bindS, chk_nat (i := i) (by omega)]
        by_cases e : s.cuts[i] ≤ x
        · have e' : decide (s.cuts[i] ≤ x) = true := decide_eq_true e
          have := cntT (l := s.cuts) (i := i) (p := fun c => decide (c ≤ x)) hy e'
          rw [e', this]
          simp only [condT, chk_nat (i := ((s.cuts.take i).filter fun c => decide (c ≤ x)).length) (by omega), bindS]
          simp
        · have e' : decide (s.cuts[i] ≤ x) = false := decide_eq_false e
          have := cntF (l := s.cuts) (i := i) (p := fun c => decide (c ≤ x)) hy e'
          rw [e', this]
          simp only [condF, bindS]) (by simp only [not_lt_cast, condF])
    simp only [List.take_zero, List.filter_nil, List.length_nil, Int.natCast_zero] at hl
    rw [hl]
    simp only [bindS, List.take_length]
    have hlt : (s.cuts.filter fun c => decide (c ≤ x)).length < s.points.length := by
      have := List.length_filter_le (fun c => decide (c ≤ x)) s.cuts
      omega
    have hy := List.getElem?_eq_getElem hlt
    simp only [ixo_at hy, bindS, onScale, h, if_false, hy, Option.getD_some]
theorem p_onCard (c : Card) (x : List Int) (hc : cardOk c x.length = true) (hx : x.length ≤ 5) : P.ref06_onCard c x = some (onCard c x) := by
  obtain ⟨hc1, hc2, hc3, hc4, hsc⟩ := cardOk_iff.1 hc
  have hpt := pt_iff.1 hc3
  unfold P.ref06_onCard
  have hl := loop_fold c.scales.length (fun i => c.base + ((parts c x).take i).sum) (onCard c x)
    (body := fun (x7, x8) => cond (decide (x8 < (c.scales.length : Int))) (Option.bind (ixo c.scales x8) fun y10 => Option.bind (ixo x x8) fun y21 => Option.bind (P.ref06_onScale y10 y21) fun z28 => Option.bind (chk .i64 (x7 + z28)) fun n33 => Option.bind (chk .i64 (x8 + 1)) fun n37 => some (.inl (n33, n37))) (some (.inr x7)))
    (fun i hi => by
      have hy := List.getElem?_eq_getElem hi
      have hi' : i < x.length := by omega
      have hz := List.getElem?_eq_getElem hi'
      have hp := parts_get hy hz
      have hs := hsc i _ hy
      have hb := onScale_bd x[i] hs
      have hsum := sum_succ hp
      have hbd := sum_bd (B := 1000000) ((parts c x).take i) (fun y hy => parts_bd hsc y (List.mem_of_mem_take hy))
      have hlen : ((parts c x).take i).length ≤ 5 := by rw [List.length_take, parts_len]; omega
      simp only [lt_cast hi, condT, ixo_at hy, ixo_at hz, bindS, p_onScale _ _ hs, chk_nat (i := i) (by omega)]
      rw [chk_i64 (by omega)]
      simp only [bindS]
      rw [hsum, Int.add_assoc]) (by
      simp only [not_lt_cast, condF]
      rw [List.take_of_length_le (by rw [parts_len]; exact Nat.le_refl _)]; rfl)
  simp only [List.take_zero, List.sum_nil, Int.add_zero] at hl
  rw [hl, bindS]
theorem p_onTree (t : Tree) (x : List Int) (hc : treeOk t x.length = true) : P.ref06_onTree t x = some (onTree t x) := by
  obtain ⟨ht1, ht2, ht3, ht4, htn⟩ := treeOk_iff.1 hc
  unfold P.ref06_onTree
  obtain ⟨r, h1, n, h2, h3, h4⟩ := loopM_inv (body := fun x7 => Option.bind (ixo t.nodes x7) fun y8 => cond (!decide (y8.trait = (-1))) (Option.bind (Option.bind (ixo t.nodes x7) fun y20 => Option.bind (ixo x y20.trait) fun y40 => Option.bind (cond (decide (y40 < y20.cut)) (some y20.low) (some y20.high)) fun x51 => some x51) fun x52 => some (.inl x52)) (some (.inr x7)))
    (fun a : Int => (0 ≤ a ∧ a < t.nodes.length) ∧ ∃ k, t.nodes.length - a.toNat ≤ k ∧ onTreeFrom t x k a = onTree t x) (fun a => t.nodes.length - a.toNat) (Q := fun r : Int => ∃ n, t.nodes[r.toNat]? = some n ∧ 0 ≤ r ∧ n.points = onTree t x)
    (fun a ⟨ha, k, hk, hat⟩ => by
      have hl : a.toNat < t.nodes.length := by omega
      have hy := List.getElem?_eq_getElem hl
      have hx := ixo_some ha.1 hy
      obtain ⟨k, rfl⟩ : ∃ j, k = j + 1 := ⟨k - 1, by omega⟩
      simp only [hx, bindS]
      by_cases e : t.nodes[a.toNat].trait = -1
      · have e' : decide (t.nodes[a.toNat].trait = -1) = true := decide_eq_true e
        rw [e']
        refine ⟨.inr a, by simp only [notT, condF], (fun s hs => by cases hs), fun r hr => ?_⟩
        cases hr
        exact ⟨_, hy, ha.1, by rw [onTree_leaf hy e] at hat; exact hat⟩
      · have e' : decide (t.nodes[a.toNat].trait = -1) = false := decide_eq_false e
        rw [e']
        obtain ⟨q1, q2, q3, q4, q5, q6⟩ := node_asks (htn _ _ hy) e
        have hl2 : t.nodes[a.toNat].trait.toNat < x.length := by omega
        have hv := List.getElem?_eq_getElem hl2
        simp only [notF, condT, ixo_some q1 hv, bindS]
        rw [onTree_step hy e hv] at hat
        by_cases e2 : x[t.nodes[a.toNat].trait.toNat] < t.nodes[a.toNat].cut
        · have e3 := decide_eq_true e2
          rw [if_pos e2] at hat
          refine ⟨.inl t.nodes[a.toNat].low, by simp only [e3, condT, bindS], fun s hs => ?_, (fun r hr => by cases hr)⟩
          cases hs
          exact ⟨⟨by omega, k, by omega, hat⟩, by omega⟩
        · have e3 := decide_eq_false e2
          rw [if_neg e2] at hat
          refine ⟨.inl t.nodes[a.toNat].high, by simp only [e3, condF, bindS], fun s hs => ?_, (fun r hr => by cases hr)⟩
          cases hs
          exact ⟨⟨by omega, k, by omega, hat⟩, by omega⟩) 0 ⟨⟨by omega, by omega⟩, _, Nat.le_refl _, rfl⟩
  rw [h1, bindS, ixo_some h3 h2, bindS, h4]
theorem p_all (m : Model) (x : List Int) (hm : modelOk m = true) (hx : valuesOk m x = true) : P.ref06_all m x = some (all m x) := by
  obtain ⟨hm1, hm2, hm3, hm4, hm5, hm6, hm7⟩ := modelOk_iff.1 hm
  obtain ⟨hv1, hv2⟩ := valuesOk_iff.1 hx
  have hvl : x.length ≤ 5 := by omega
  unfold P.ref06_all
  have hl := loop_fold m.cards.length (fun i => (m.cards.take i).map (onCard · x)) (m.cards.map (onCard · x))
    (body := fun (x7, x8) => cond (decide (x8 < (m.cards.length : Int))) (Option.bind (ixo m.cards x8) fun y10 => Option.bind (P.ref06_onCard y10 x) fun z20 => Option.bind (appo 8 x7 ([z20] : List Int)) fun l32 => Option.bind (chk .i64 (x8 + 1)) fun n37 => some (.inl (l32, n37))) (some (.inr x7)))
    (fun i hi => by
      have hy := List.getElem?_eq_getElem hi
      have h6 := hm6 i _ hy
      rw [← hv1] at h6
      simp only [lt_cast hi, condT, ixo_at hy, bindS, p_onCard _ _ h6 hvl, chk_nat (i := i) (by omega)]
      rw [appo_ok (by simp; omega) (by simp; omega)]
      simp only [bindS]
      rw [map_succ hy]) (by simp only [not_lt_cast, condF, List.take_length])
  simp only [List.take_zero, List.map_nil] at hl
  rw [hl, bindS]
  have hl2 := loop_fold m.trees.length (fun i => m.cards.map (onCard · x) ++ (m.trees.take i).map (onTree · x)) (all m x)
    (body := fun (x39, x40) => cond (decide (x40 < (m.trees.length : Int))) (Option.bind (ixo m.trees x40) fun y42 => Option.bind (P.ref06_onTree y42 x) fun z51 => Option.bind (appo 8 x39 ([z51] : List Int)) fun l63 => Option.bind (chk .i64 (x40 + 1)) fun n68 => some (.inl (l63, n68))) (some (.inr x39)))
    (fun i hi => by
      have hy := List.getElem?_eq_getElem hi
      have h7 := hm7 i _ hy
      rw [← hv1] at h7
      simp only [lt_cast hi, condT, ixo_at hy, bindS, p_onTree _ _ h7, chk_nat (i := i) (by omega)]
      rw [appo_ok (by simp; omega) (by simp; omega)]
      simp only [bindS]
      rw [map_succ hy, List.append_assoc]) (by simp only [not_lt_cast, condF, List.take_length]; rfl)
  simp only [List.take_zero, List.map_nil, List.append_nil] at hl2
  rw [hl2, bindS]
theorem p_score (m : Model) (x : List Int) (hm : modelOk m = true) (hx : valuesOk m x = true) : P.ref06_score m x = some (score m x) := by
  obtain ⟨hm1, hm2, hm3, hm4, hm5, hm6, hm7⟩ := modelOk_iff.1 hm
  unfold P.ref06_score
  rw [show (Model.mk m.traits m.cards m.trees m.need) = m from rfl, p_all m x hm hx, bindS]
  have hal := all_len (m := m) (x := x)
  have habd := all_bd (x := x) hm
  have hbd : ∀ i : Nat, i ≤ 4 → -6000000000 * (i : Int) ≤ scoreTo m x i ∧ scoreTo m x i ≤ 6000000000 * (i : Int) := by
    intro i
    induction i with
    | zero => intro _; simp [scoreTo]
    | succ i ih =>
      intro hi
      have ih := ih (by omega)
      rcases Nat.lt_or_ge i (all m x).length with h | h
      · have hy := List.getElem?_eq_getElem h
        rw [scoreTo_succ hy]
        have hb := habd _ _ hy
        rcases Nat.lt_or_ge i m.cards.length with h2 | h2
        · have hc := List.getElem?_eq_getElem h2
          have hk := cardOk_iff.1 (hm6 _ _ hc)
          rw [weightAt_card hc]
          have := mul_bd hk.1 hk.2.1 hb
          omega
        · have h3 : i - m.cards.length < m.trees.length := by omega
          have hc := List.getElem?_eq_getElem h3
          have hk := treeOk_iff.1 (hm7 _ _ hc)
          rw [weightAt_tree (by omega) hc]
          have := mul_bd hk.1 hk.2.1 hb
          omega
      · have : scoreTo m x (i + 1) = scoreTo m x i := by
          unfold scoreTo
          rw [List.take_of_length_le (by simp; omega), List.take_of_length_le (by simp; omega)]
        rw [this]; omega
  have hl := loop_fold (all m x).length (scoreTo m x) (score m x)
    (body := fun (x14, x15) => cond (decide (x15 < ((all m x).length : Int))) (Option.bind (Option.bind (cond (decide (x15 < (m.cards.length : Int))) (Option.bind (ixo m.cards x15) fun y18 => Option.bind (ixo (all m x) x15) fun y28 => Option.bind (chk .i64 (y18.weight * y28)) fun n35 => Option.bind (chk .i64 (x14 + n35)) fun n36 => some n36) (Option.bind (chk .i64 (x15 - (m.cards.length : Int))) fun n40 => Option.bind (ixo m.trees n40) fun y41 => Option.bind (ixo (all m x) x15) fun y50 => Option.bind (chk .i64 (y41.weight * y50)) fun n57 => Option.bind (chk .i64 (x14 + n57)) fun n58 => some n58)) fun x62 => some x62) fun x63 => Option.bind (chk .i64 (x15 + 1)) fun n64 => some (.inl (x63, n64))) (some (.inr x14)))
    (fun i hi => by
      have hy := List.getElem?_eq_getElem hi
      have hb := habd _ _ hy
      have hs := hbd i (by omega)
      rw [scoreTo_succ hy]
      simp only [lt_cast hi, condT, ixo_at hy, bindS, chk_nat (i := i) (by omega)]
      rcases Nat.lt_or_ge i m.cards.length with h2 | h2
      · have hc := List.getElem?_eq_getElem h2
        have hk := cardOk_iff.1 (hm6 _ _ hc)
        rw [weightAt_card hc]
        have := mul_bd hk.1 hk.2.1 hb
        simp only [lt_cast h2, condT, ixo_at hc, bindS]
        rw [chk_i64 (by omega), bindS, chk_i64 (by omega)]
        simp only [bindS]
      · have h3 : i - m.cards.length < m.trees.length := by omega
        have hc := List.getElem?_eq_getElem h3
        have hk := treeOk_iff.1 (hm7 _ _ hc)
        rw [weightAt_tree (by omega) hc]
        have := mul_bd hk.1 hk.2.1 hb
        have e1 : decide ((i : Int) < (m.cards.length : Int)) = false := decide_eq_false (by omega)
        have e2 : chk .i64 ((i : Int) - (m.cards.length : Int)) = some ((i - m.cards.length : Nat) : Int) := by rw [chk_i64 (by omega)]; congr 1; omega
        simp only [e1, condF, e2, bindS, ixo_at hc]
        rw [chk_i64 (by omega), bindS, chk_i64 (by omega)]
        simp only [bindS]) (by simp only [not_lt_cast, condF]; rw [score_eq])
  rw [show scoreTo m x 0 = 0 from by simp [scoreTo]] at hl
  rw [hl, bindS]
/-- What is neither great nor long. -/
structure Small (m : Model) : Prop where
  cards : m.cards.length ≤ 6
  trees : m.trees.length ≤ 6
  scales : ∀ c ∈ m.cards, c.scales.length ≤ 10
  cuts : ∀ c ∈ m.cards, ∀ s ∈ c.scales, s.cuts.length ≤ 10 ∧ s.points.length ≤ 12
  nodes : ∀ t ∈ m.trees, t.nodes.length ≤ 20
theorem small_of {m : Model} (h : great m = false) : Small m := by
  obtain ⟨h1, h2, h3, h4⟩ := great_iff.1 h
  refine ⟨h1, h2, fun c hc => ?_, fun c hc s hs => ?_, fun t ht => ?_⟩
  · obtain ⟨j, hj⟩ := List.getElem?_of_mem hc; exact (greatCard_iff.1 (h3 j c hj)).1
  · obtain ⟨j, hj⟩ := List.getElem?_of_mem hc
    obtain ⟨k, hk⟩ := List.getElem?_of_mem hs
    have := (greatCard_iff.1 (h3 j c hj)).2 k s hk
    simp only [greatScale, Bool.or_eq_false_iff, decide_eq_false_iff_not] at this
    omega
  · obtain ⟨j, hj⟩ := List.getElem?_of_mem ht
    have := h4 j t hj
    simp only [greatTree, decide_eq_false_iff_not] at this
    omega
theorem p_Score (m : Model) (x : List Int) (hs : Small m) (hx : x.length ≤ 10) : P.ref06_Score m x = some (if modelOk m && valuesOk m x then score m x else 0, modelOk m && valuesOk m x && decide (1000 * m.need ≤ score m x), err m x) := by
  unfold P.ref06_Score
  rw [show (Model.mk m.traits m.cards m.trees m.need) = m from rfl, p_check m hs.cards hs.trees hs.scales hs.nodes, bindS, p_values m x (by omega), bindS]
  unfold check err
  cases h1 : modelOk m with
  | false => simp
  | true =>
    simp only [if_true, decide_true, notT, condF, Bool.true_and]
    cases h2 : valuesOk m x with
    | false => simp
    | true =>
      have hnd := pt_iff.1 (modelOk_iff.1 h1).2.2.1
      simp only [notT, condF, if_true, Bool.true_and, p_score m x h1 h2, bindS]
      rw [chk_i64 (by omega), bindS]
end S
end Go.Proofs.YtecmlmngcnionaaGreat
namespace Go.Proofs.YtecmlmngcnionaaGreat
open Go Go.Sx
namespace S
theorem loop_inv2 {S R : Type} {body : S → Option (S ⊕ R)} (I : S → Prop) (μ : S → Nat) {Q : R → Prop} (step : ∀ s, I s → (∃ s', body s = some (.inl s') ∧ I s' ∧ μ s' < μ s) ∨ (∃ r, body s = some (.inr r) ∧ Q r)) (s : S) (hs : I s) : ∃ r, loopM body s = some r ∧ Q r :=
  loopM_inv (Q := Q) I μ (fun s hs => by
    rcases step s hs with ⟨s', h, h1, h2⟩ | ⟨r, h, h1⟩
    · exact ⟨_, h, (fun x hx => by cases hx; exact ⟨h1, h2⟩), (fun x hx => by cases hx)⟩
    · exact ⟨_, h, (fun x hx => by cases hx), (fun x hx => by cases hx; exact h1)⟩) s hs
theorem find_idx {α : Type} (p : α → Bool) : ∀ (l : List α) (k : Nat), (((l.zipIdx k).findSome? fun q => if p q.1 then some (Sum.inr (q.2 : Int) : Unit ⊕ Int) else none).getD (.inl ())) = match l.findIdx? p with | some i => .inr ((i + k : Nat) : Int) | none => .inl ()
  | [], _ => by simp
  | a :: l, k => by
    rw [List.zipIdx_cons, List.findSome?_cons, List.findIdx?_cons]
    cases h : p a with
    | true => simp
    | false =>
      simp only [Bool.false_eq_true, if_false]
      rw [find_idx p l (k + 1)]
      cases l.findIdx? p with
      | none => rfl
      | some i => simp only [Option.map_some]; congr 2; omega
theorem idx_loop {α : Type} (l : List α) (f : α → Option Bool) (p : α → Bool) (hf : ∀ y ∈ l, f y = some (p y)) (hl : l.length ≤ 1000000) :
    (Option.bind (loopM (S := Int) (R := (Unit) ⊕ (Int)) (fun x1 => cond (decide (x1 < (l.length : Int))) (Option.bind (ixo l x1) fun y3 => Option.bind (f y3) fun z14 => cond z14 (some (.inr (.inr x1))) (Option.bind (chk .i64 (x1 + 1)) fun n20 => some (.inl n20))) (some (.inr (.inl ())))) 0) fun j21 => Sum.elim (fun _ => some (-1)) (fun r22 => some r22)  j21) = some (idx p l) := by
  have key : loopM (S := Int) (R := Unit ⊕ Int) (fun x1 => cond (decide (x1 < (l.length : Int))) (Option.bind (ixo l x1) fun y3 => Option.bind (f y3) fun z14 => cond z14 (some (.inr (.inr x1))) (Option.bind (chk .i64 (x1 + 1)) fun n20 => some (.inl n20))) (some (.inr (.inl ())))) 0 = some (((l.zipIdx 0).findSome? fun q => if p q.1 then some (Sum.inr (q.2 : Int) : Unit ⊕ Int) else none).getD (.inl ())) := loop_find (body := fun x1 => cond (decide (x1 < (l.length : Int))) (Option.bind (ixo l x1) fun y3 => Option.bind (f y3) fun z14 => cond z14 (some (.inr (.inr x1))) (Option.bind (chk .i64 (x1 + 1)) fun n20 => some (.inl n20))) (some (.inr (.inl ())))) l (fun i => (i : Int)) (fun i y => if p y then some (Sum.inr (i : Int) : Unit ⊕ Int) else none) (.inl ()) (fun i y hy => by
    have hi := get_lt hy
    simp only [lt_cast hi, condT, ixo_at hy, bindS, hf y (List.mem_of_getElem? hy), chk_nat (i := i) (by omega)]
    cases p y with
    | true => simp only [condT, if_true]
    | false => simp) (by simp only [not_lt_cast, condF])
  rw [key, find_idx p l 0, bindS]
  unfold idx
  cases l.findIdx? p <;> simp
theorem p_idx67 (l : List Int) (f : Int → Option Bool) (p : Int → Bool) (hf : ∀ y ∈ l, f y = some (p y)) (hl : l.length ≤ 1000000) : P.slices_IndexFunc_52 l f = some (idx p l) := by
  unfold P.slices_IndexFunc_52; exact idx_loop l f p hf hl
theorem p_idx134 (l : List Scale) (f : Scale → Option Bool) (p : Scale → Bool) (hf : ∀ y ∈ l, f y = some (p y)) (hl : l.length ≤ 1000000) : P.slices_IndexFunc_117 l f = some (idx p l) := by
  unfold P.slices_IndexFunc_117; exact idx_loop l f p hf hl
theorem p_idx66 (l : List I70) (f : I70 → Option Bool) (p : I70 → Bool) (hf : ∀ y ∈ l, f y = some (p y)) (hl : l.length ≤ 1000000) : P.slices_IndexFunc_51 l f = some (idx p l) := by
  unfold P.slices_IndexFunc_51; exact idx_loop l f p hf hl
theorem p_has56 (l : List Int) (f : Int → Option Bool) (p : Int → Bool) (hf : ∀ y ∈ l, f y = some (p y)) (hl : l.length ≤ 1000000) : P.slices_ContainsFunc_37 l f = some (l.any p) := by
  unfold P.slices_ContainsFunc_37; rw [p_idx67 l f p hf hl, bindS, ← idx_ge]
theorem p_has130 (l : List Scale) (f : Scale → Option Bool) (p : Scale → Bool) (hf : ∀ y ∈ l, f y = some (p y)) (hl : l.length ≤ 1000000) : P.slices_ContainsFunc_113 l f = some (l.any p) := by
  unfold P.slices_ContainsFunc_113; rw [p_idx134 l f p hf hl, bindS, ← idx_ge]
theorem p_has54 (l : List I70) (f : I70 → Option Bool) (p : I70 → Bool) (hf : ∀ y ∈ l, f y = some (p y)) (hl : l.length ≤ 1000000) : P.slices_ContainsFunc_36 l f = some (l.any p) := by
  unfold P.slices_ContainsFunc_36; rw [p_idx66 l f p hf hl, bindS, ← idx_ge]
theorem p_swithin (lo hi : Int) (l : List Int) (hl : l.length ≤ 1000000) : P.score_within lo hi l = some (l.all fun n => decide (lo ≤ n ∧ n ≤ hi)) := by
  unfold P.score_within
  rw [p_has56 l _ (fun n => !decide (lo ≤ n ∧ n ≤ hi)) (fun y _ => by
    unfold P.score_within_in1
    by_cases h : y < lo
    · have : ¬ (lo ≤ y ∧ y ≤ hi) := by omega
      simp [h, this]
    · by_cases h2 : hi < y
      · have : ¬ (lo ≤ y ∧ y ≤ hi) := by omega
        simp [h, h2, this]
      · have : lo ≤ y ∧ y ≤ hi := by omega
        simp [h, h2, this]) hl, bindS, List.all_eq_not_any_not]
theorem p_counts (l : List Int) (hl : l.length ≤ 1000000) : P.score_counts l = some (l.all pt) := by
  unfold P.score_counts; rw [p_swithin _ _ _ hl, bindS]; rfl
theorem p_less (x y : Int) : P.cmp_Less_86 x y = some (decide (x < y)) := by
  unfold P.cmp_Less_86 P.cmp_isNaN_63; simp
theorem p_sorted (x : List Int) (hl : x.length ≤ 1000000) : P.slices_IsSorted_118 x = some (sorted x) := by
  unfold P.slices_IsSorted_118
  rw [chk_i64 (by omega), bindS]
  obtain ⟨r, h1, h2⟩ := loop_inv2 (body := fun x2 => cond (decide (0 < x2)) (Option.bind (ixo x x2) fun y4 => Option.bind (chk .i64 (x2 - 1)) fun n11 => Option.bind (ixo x n11) fun y12 => Option.bind (P.cmp_Less_86 y4 y12) fun z19 => cond z19 (some (.inr (.inr false))) (Option.bind (chk .i64 (x2 - 1)) fun n27 => some (.inl n27))) (some (.inr (.inl ()))))
    (fun k : Int => k ≤ (x.length : Int) - 1 ∧ ∀ j : Nat, k ≤ (j : Int) → ∀ c d, x[j]? = some c → x[j + 1]? = some d → c ≤ d) (fun k => k.toNat) (Q := fun r : Unit ⊕ Bool => r = if sorted x then .inl () else .inr false)
    (fun k ⟨hk, hs⟩ => by
      by_cases h0 : 0 < k
      · have e0 : decide (0 < k) = true := decide_eq_true h0
        have ha : x[k.toNat]? = some x[k.toNat] := List.getElem?_eq_getElem (by omega)
        have hb : x[(k - 1).toNat]? = some x[(k - 1).toNat] := List.getElem?_eq_getElem (by omega)
        have hc : chk .i64 (k - 1) = some (k - 1) := chk_i64 (by omega)
        simp only [e0, condT, ixo_some (by omega) ha, ixo_some (show 0 ≤ k - 1 by omega) hb, hc, bindS, p_less]
        by_cases e : x[k.toNat] < x[(k - 1).toNat]
        · right
          refine ⟨.inr false, by simp only [decide_eq_true e, condT], ?_⟩
          rw [sorted_not ha hb h0 e]; rfl
        · left
          refine ⟨k - 1, by simp only [decide_eq_false e, condF], ⟨by omega, sorted_step hs h0 ha hb e⟩, by omega⟩
      · right
        have e0 : decide (0 < k) = false := decide_eq_false h0
        refine ⟨.inl (), by simp only [e0, condF], ?_⟩
        rw [sorted_all fun j c d hc hd => hs j (by omega) c d hc hd]; rfl) ((x.length : Int) - 1) ⟨by omega, fun j hj c d hc hd => by have := get_lt hd; omega⟩
  rw [h1, bindS, h2]
  cases sorted x <;> simp
theorem p_clone (l : List Int) (hl : l.length ≤ 1000000) : P.slices_Clone_26 l = some l := by
  unfold P.slices_Clone_26
  refine nilq_same (fun h => ?_) ?_
  · subst h; rfl
  · rw [condF, appo_ok (by simp; omega) (by simp; omega), bindS, List.nil_append]
/-- No two neighbours are equal. -/
def apart (x : List Int) : Prop := ∀ (j : Nat) (c d : Int), x[j]? = some c → x[j + 1]? = some d → c ≠ d
theorem p_compact (s : List Int) (hl : s.length ≤ 1000000) : ∃ l, P.slices_Compact_68 s = some l ∧ (l.length = s.length ↔ apart s) := by
  unfold P.slices_Compact_68
  by_cases h0 : s.length < 2
  · have e0 : decide ((s.length : Int) < 2) = true := decide_eq_true (by omega)
    refine ⟨s, by rw [e0, condT], ⟨fun _ j c d hc hd => ?_, fun _ => rfl⟩⟩
    have := get_lt hd
    omega
  · have e0 : decide ((s.length : Int) < 2) = false := decide_eq_false (by omega)
    rw [e0, condF]
    obtain ⟨r, h1, h2⟩ := loop_inv2 (body := (fun x2 => cond (decide (x2 < (s.length : Int))) (Option.bind (ixo s x2) fun y4 => Option.bind (chk .i64 (x2 - 1)) fun n11 => Option.bind (ixo s n11) fun y12 => cond (decide (y4 = y12)) (Option.bind (cutLo s x2) fun l23 => Option.bind (loopM (S := Int × Int × (List Int)) (R := (Int × (List Int))) (fun (x26, x27, x28) => Option.bind (cutLo x28 x2) fun l29 => cond (decide (x27 < (l29.length : Int))) (Option.bind (Option.bind (cutLo x28 x2) fun l31 => Option.bind (ixo l31 x27) fun y32 => Option.bind (chk .i64 (x27 - 1)) fun n40 => Option.bind (cutLo x28 x2) fun l41 => Option.bind (ixo l41 n40) fun y42 => Option.bind (cond (!decide (y32 = y42)) (Option.bind (cutLo x28 x2) fun l54 => Option.bind (ixo l54 x27) fun y55 => Option.bind (ixo x28 x26) fun y63 => Option.bind (seto x28 x26 y55) fun l70 => Option.bind (chk .i64 (x26 + 1)) fun n74 => some (n74, l70)) (some (x26, x28))) fun (x75, x76) => some (x75, x76)) fun (x77, x78) => Option.bind (chk .i64 (x27 + 1)) fun n79 => some (.inl (x77, n79, x78))) (some (.inr (x26, x28)))) (x2, 1, s)) fun (x80, x81) => Option.bind (cutLo x81 x80) fun l82 => Option.bind (cutHi (x81.take x80.toNat ++ List.replicate l82.length 0) x80) fun l88 => some (.inr (.inr l88))) (Option.bind (chk .i64 (x2 + 1)) fun n92 => some (.inl n92))) (some (.inr (.inl ())))))
      (fun k : Int => 1 ≤ k ∧ k ≤ s.length ∧ ∀ j : Nat, (j : Int) + 1 < k → ∀ c d, s[j]? = some c → s[j + 1]? = some d → c ≠ d) (fun k => s.length - k.toNat) (Q := fun r : Unit ⊕ List Int => (r = .inl () ∧ apart s) ∨ ∃ l, r = .inr l ∧ l.length < s.length ∧ ¬ apart s)
      (fun k ⟨hk1, hk2, hs⟩ => by
        by_cases hk : k < (s.length : Int)
        · have e1 : decide (k < (s.length : Int)) = true := decide_eq_true hk
          have ha : s[k.toNat]? = some s[k.toNat] := List.getElem?_eq_getElem (by omega)
          have hb : s[(k - 1).toNat]? = some s[(k - 1).toNat] := List.getElem?_eq_getElem (by omega)
          have hc : chk .i64 (k - 1) = some (k - 1) := chk_i64 (by omega)
          have hc2 : chk .i64 (k + 1) = some (k + 1) := chk_i64 (by omega)
          have hj : k.toNat = (k - 1).toNat + 1 := by omega
          simp only [e1, condT, ixo_some (show 0 ≤ k by omega) ha, ixo_some (show 0 ≤ k - 1 by omega) hb, hc, hc2, bindS]
          by_cases e : s[k.toNat] = s[(k - 1).toNat]
          · right
            have e2 : decide (s[k.toNat] = s[(k - 1).toNat]) = true := decide_eq_true e
            have hcut : ∀ l : List Int, l.length = s.length → cutLo l k = some (l.drop k.toNat) := fun l hl => by unfold cutLo; rw [if_pos ⟨by omega, by omega⟩]
            simp only [e2, condT, hcut s rfl, bindS]
            obtain ⟨⟨n, l⟩, g1, g2⟩ := loop_inv2 (body := (fun (x26, x27, x28) => Option.bind (cutLo x28 k) fun l29 => cond (decide (x27 < (l29.length : Int))) (Option.bind (Option.bind (cutLo x28 k) fun l31 => Option.bind (ixo l31 x27) fun y32 => Option.bind (chk .i64 (x27 - 1)) fun n40 => Option.bind (cutLo x28 k) fun l41 => Option.bind (ixo l41 n40) fun y42 => Option.bind (cond (!decide (y32 = y42)) (Option.bind (cutLo x28 k) fun l54 => Option.bind (ixo l54 x27) fun y55 => Option.bind (ixo x28 x26) fun y63 => Option.bind (seto x28 x26 y55) fun l70 => Option.bind (chk .i64 (x26 + 1)) fun n74 => some (n74, l70)) (some (x26, x28))) fun (x75, x76) => some (x75, x76)) fun (x77, x78) => Option.bind (chk .i64 (x27 + 1)) fun n79 => some (.inl (x77, n79, x78))) (some (.inr (x26, x28)))))
              (fun t : Int × Int × List Int => t.2.2.length = s.length ∧ k ≤ t.1 ∧ 1 ≤ t.2.1 ∧ t.2.1 ≤ s.length - k ∧ t.1 ≤ k + t.2.1 - 1) (fun t => s.length - t.2.1.toNat) (Q := fun r : Int × List Int => r.2.length = s.length ∧ k ≤ r.1 ∧ r.1 < s.length)
              (fun ⟨i, j, l⟩ ⟨q1, q2, q3, q4, q5⟩ => by
                simp only at q1 q2 q3 q4 q5
                have hdl : (l.drop k.toNat).length = s.length - k.toNat := by rw [List.length_drop, q1]
                simp only [hcut l q1, bindS]
                by_cases hj2 : j < ((l.drop k.toNat).length : Int)
                · have e3 : decide (j < ((l.drop k.toNat).length : Int)) = true := decide_eq_true hj2
                  have hx : (l.drop k.toNat)[j.toNat]? = some (l.drop k.toNat)[j.toNat] := List.getElem?_eq_getElem (by omega)
                  have hy : (l.drop k.toNat)[(j - 1).toNat]? = some (l.drop k.toNat)[(j - 1).toNat] := List.getElem?_eq_getElem (by omega)
                  have hz : l[i.toNat]? = some l[i.toNat] := List.getElem?_eq_getElem (by omega)
                  have hc3 : chk .i64 (j - 1) = some (j - 1) := chk_i64 (by omega)
                  have hc4 : chk .i64 (j + 1) = some (j + 1) := chk_i64 (by omega)
                  have hc5 : chk .i64 (i + 1) = some (i + 1) := chk_i64 (by omega)
                  have hset : ∀ z, seto l i z = some (l.set i.toNat z) := fun z => by unfold seto; rw [if_pos ⟨by omega, by omega⟩]
                  simp only [e3, condT, ixo_some (show 0 ≤ j by omega) hx, ixo_some (show 0 ≤ j - 1 by omega) hy, ixo_some (show 0 ≤ i by omega) hz, hc3, hc4, hc5, hset, bindS]
                  left
                  by_cases e4 : (l.drop k.toNat)[j.toNat] = (l.drop k.toNat)[(j - 1).toNat]
                  · have e5 := decide_eq_true e4
                    refine ⟨(i, j + 1, l), by simp only [e5, notT, condF, bindS], ?_, ?_⟩ <;> simp only <;> omega
                  · have e5 := decide_eq_false e4
                    refine ⟨(i + 1, j + 1, l.set i.toNat (l.drop k.toNat)[j.toNat]), by simp only [e5, notF, condT, bindS], ?_, ?_⟩ <;> simp only [List.length_set] <;> omega
                · have e3 : decide (j < ((l.drop k.toNat).length : Int)) = false := decide_eq_false hj2
                  right
                  exact ⟨(i, l), by simp only [e3, condF], q1, q2, by simp only; omega⟩) (k, 1, s) ⟨rfl, by simp only; omega, by simp only; omega, by simp only; omega, by simp only; omega⟩
            simp only at g2
            rw [g1]
            simp only [bindS]
            have hcl : cutLo l n = some (l.drop n.toNat) := by unfold cutLo; rw [if_pos ⟨by omega, by omega⟩]
            rw [hcl, bindS]
            have hlen : (l.take n.toNat ++ List.replicate (l.drop n.toNat).length (0 : Int)).length = s.length := by simp; omega
            have hch : cutHi (l.take n.toNat ++ List.replicate (l.drop n.toNat).length (0 : Int)) n = some ((l.take n.toNat ++ List.replicate (l.drop n.toNat).length (0 : Int)).take n.toNat) := by unfold cutHi; rw [if_pos ⟨by omega, by omega⟩]
            rw [hch, bindS]
            refine ⟨_, rfl, .inr ⟨_, rfl, ?_, fun hap => ?_⟩⟩
            · rw [List.length_take]; omega
            · have ha' : s[(k - 1).toNat + 1]? = some s[k.toNat] := by rw [← hj]; exact ha
              exact hap _ _ _ hb ha' e.symm
          · left
            have e2 : decide (s[k.toNat] = s[(k - 1).toNat]) = false := decide_eq_false e
            refine ⟨k + 1, by simp only [e2, condF], ⟨by omega, by omega, fun j hj2 c d hc hd => ?_⟩, by omega⟩
            by_cases h9 : (j : Int) + 1 < k
            · exact hs j h9 c d hc hd
            · have : j = (k - 1).toNat := by omega
              subst this
              rw [hb] at hc; rw [← hj, ha] at hd
              cases hc; cases hd
              exact fun h => e h.symm
        · have e1 : decide (k < (s.length : Int)) = false := decide_eq_false hk
          right
          refine ⟨.inl (), by simp only [e1, condF], .inl ⟨rfl, fun j c d hc hd => hs j ?_ c d hc hd⟩⟩
          have := get_lt hd
          omega) 1 ⟨by omega, by omega, fun j hj => by omega⟩
    rw [h1, bindS]
    rcases h2 with ⟨rfl, h2⟩ | ⟨l, rfl, h2, h3⟩
    · exact ⟨s, by rw [elimLS], ⟨fun _ => h2, fun _ => rfl⟩⟩
    · exact ⟨l, by rw [elimRS], ⟨fun h => by omega, fun h => absurd h h3⟩⟩
theorem p_measured (s : Scale) (hc : s.cuts.length ≤ 10) (hp : s.points.length ≤ 12) : P.score_measured s = some (scaleOk s) := by
  unfold P.score_measured
  by_cases h1 : 3 < s.cuts.length
  · have h1' : (3 : Int) < s.cuts.length := by omega
    have : scaleOk s = false := by simp [scaleOk]; omega
    simp [h1', this]
  · have h1' : decide ((3 : Int) < s.cuts.length) = false := decide_eq_false (by omega)
    have h1'' : s.cuts.length ≤ 3 := by omega
    simp only [h1', condF]
    rw [chk_i64 (by omega), bindS]
    by_cases h2 : (s.points.length : Int) = s.cuts.length + 1
    · have h2' : s.points.length = s.cuts.length + 1 := by omega
      rw [p_counts _ (by simp), p_counts _ (by omega), p_swithin _ _ _ (by omega)]
      have e2 : decide ((s.points.length : Int) = s.cuts.length + 1) = true := decide_eq_true h2
      simp only [e2, notT, condF, bindS, List.all_cons, List.all_nil, Bool.and_true]
      unfold scaleOk
      simp only [h1'', h2', decide_true, Bool.true_and]
      cases h3 : pt s.none_ with
      | false => simp only [notF, condT, bindS, Bool.false_and]
      | true =>
        simp only [notT, condF, Bool.true_and]
        cases h4 : s.points.all pt with
        | false => simp only [notF, condT, bindS, Bool.and_false]
        | true =>
          simp only [notT, condF, Bool.and_true]
          cases h5 : s.cuts.all (fun c => decide (1 ≤ c ∧ c ≤ 1000000)) with
          | false => simp only [notF, condT, bindS, Bool.false_and]
          | true =>
            simp only [notT, condF, bindS, Bool.true_and]
            rw [p_sorted _ (by omega), bindS]
            cases h6 : sorted s.cuts with
            | false =>
              simp only [condF, bindS]
              congr 1
              refine (Bool.eq_false_iff.2 fun hr => ?_).symm
              have := (sorted_iff s.cuts).2 fun j c d hc hd => Int.le_of_lt ((rising_iff _).1 hr j c d hc hd)
              rw [h6] at this; cases this
            | true =>
              rw [condT, p_clone _ (by omega), bindS]
              obtain ⟨l, g1, g2⟩ := p_compact s.cuts (by omega)
              rw [g1]
              simp only [bindS]
              congr 1
              rw [Bool.eq_iff_iff, decide_eq_true_eq]
              constructor
              · intro h
                have hap := g2.1 (by omega)
                exact (rising_iff _).2 fun j c d hc hd => by
                  have a := (sorted_iff s.cuts).1 h6 j c d hc hd
                  have b := hap j c d hc hd
                  omega
              · intro hr
                have := g2.2 fun j c d hc hd => by have := (rising_iff _).1 hr j c d hc hd; omega
                omega
    · have : scaleOk s = false := by
        simp only [scaleOk, Bool.and_eq_false_iff, decide_eq_false_iff_not]
        left; left; left; left; right; omega
      simp [h2, this]
end S
end Go.Proofs.YtecmlmngcnionaaGreat
namespace Go.Proofs.YtecmlmngcnionaaGreat
open Go Go.Sx
namespace S
theorem filter_len {l : List Int} {p : Int → Bool} {i : Nat} (hi : i ≤ l.length) (h1 : ∀ (j : Nat) (y : Int), l[j]? = some y → j < i → p y = true) (h2 : ∀ (j : Nat) (y : Int), l[j]? = some y → i ≤ j → p y = false) : (l.filter p).length = i := by
  have : l.filter p = l.take i := by
    conv => lhs; rw [← List.take_append_drop i l, List.filter_append]
    rw [List.filter_eq_self.2, List.filter_eq_nil_iff.2, List.append_nil]
    · intro y hy
      obtain ⟨j, hj⟩ := List.getElem?_of_mem hy
      rw [List.getElem?_drop] at hj
      rw [h2 (i + j) y hj (by omega)]; decide
    · intro y hy
      obtain ⟨j, hj⟩ := List.getElem?_of_mem hy
      rw [List.getElem?_take] at hj
      split at hj
      · exact h1 j y hj (by assumption)
      · cases hj
  rw [this, List.length_take]; omega
theorem rising_lt {l : List Int} (h : rising l = true) : ∀ (n j : Nat) (c d : Int), l[j]? = some c → l[j + n + 1]? = some d → c < d
  | 0, j, c, d, hc, hd => (rising_iff l).1 h j c d hc hd
  | n + 1, j, c, d, hc, hd => by
    have hl := get_lt hd
    have hm : l[j + n + 1]? = some l[j + n + 1] := List.getElem?_eq_getElem (by omega)
    have a := rising_lt h n j c _ hc hm
    have b := (rising_iff l).1 h (j + n + 1) _ d hm (by rw [show j + n + 1 + 1 = j + (n + 1) + 1 by omega]; exact hd)
    omega
theorem rising_le {l : List Int} (h : rising l = true) {j k : Nat} {c d : Int} (hjk : j ≤ k) (hc : l[j]? = some c) (hd : l[k]? = some d) : c ≤ d := by
  rcases Nat.lt_or_ge j k with h1 | h1
  · exact Int.le_of_lt (rising_lt h (k - j - 1) j c d hc (by rw [show j + (k - j - 1) + 1 = k by omega]; exact hd))
  · have : j = k := by omega
    subst this; rw [hc] at hd; cases hd; exact Int.le_refl _
theorem half {a : Int} (h : 0 ≤ a) : shrO a 1 IntKind.u64.bits = some (a / 2) := by
  unfold shrO
  rw [if_pos (by omega)]
  show some (a.fdiv 2) = _
  rw [Int.fdiv_eq_ediv_of_nonneg _ (by omega)]
theorem p_search (l : List Int) (t : Int) (hl : l.length ≤ 1000000) (hr : rising l = true) : ∃ i b, P.slices_BinarySearch_112 l t = some (i, b) ∧ 0 ≤ i ∧ i ≤ (l.length : Int) ∧ (if b = true then i + 1 else i) = ((l.filter fun c => decide (c ≤ t)).length : Int) := by
  unfold P.slices_BinarySearch_112
  obtain ⟨i, h1, h0, h2, h3, h4⟩ := loop_inv2 (body := (fun (x1, x2) => cond (decide (x1 < x2)) (Option.bind (Option.bind (chk .i64 (x1 + x2)) fun n4 => Option.bind (chk .u64 n4) fun n5 => Option.bind (shrO n5 1 IntKind.u64.bits) fun n6 => Option.bind (chk .i64 n6) fun n7 => Option.bind (ixo l n7) fun y8 => Option.bind (P.cmp_Less_86 y8 t) fun z15 => Option.bind (cond z15 (Option.bind (chk .i64 (n7 + 1)) fun n21 => some (n21, x2)) (some (x1, n7))) fun (x22, x23) => some (x22, x23)) fun (x24, x25) => some (.inl (x24, x25))) (some (.inr x1))))
    (fun s : Int × Int => 0 ≤ s.1 ∧ s.1 ≤ s.2 ∧ s.2 ≤ (l.length : Int) ∧ (∀ (k : Nat) (y : Int), l[k]? = some y → (k : Int) < s.1 → y < t) ∧ (∀ (k : Nat) (y : Int), l[k]? = some y → s.2 ≤ (k : Int) → t ≤ y)) (fun s => (s.2 - s.1).toNat)
    (Q := fun i : Int => 0 ≤ i ∧ i ≤ (l.length : Int) ∧ (∀ (k : Nat) (y : Int), l[k]? = some y → (k : Int) < i → y < t) ∧ (∀ (k : Nat) (y : Int), l[k]? = some y → i ≤ (k : Int) → t ≤ y))
    (fun ⟨i, j⟩ ⟨q1, q2, q3, q4, q5⟩ => by
      simp only at q1 q2 q3 q4 q5
      by_cases e : i < j
      · left
        have e1 := decide_eq_true e
        have hc1 : chk .i64 (i + j) = some (i + j) := chk_i64 (by omega)
        have hc2 : chk .u64 (i + j) = some (i + j) := chk_in (by show (0 : Int) ≤ i + j ∧ i + j ≤ 18446744073709551615; omega)
        have hc3 : chk .i64 ((i + j) / 2) = some ((i + j) / 2) := chk_i64 (by omega)
        have hc4 : chk .i64 ((i + j) / 2 + 1) = some ((i + j) / 2 + 1) := chk_i64 (by omega)
        have hy : l[((i + j) / 2).toNat]? = some l[((i + j) / 2).toNat] := List.getElem?_eq_getElem (by omega)
        simp only [e1, condT, hc1, hc2, hc3, hc4, half (show 0 ≤ i + j by omega), ixo_some (show 0 ≤ (i + j) / 2 by omega) hy, bindS, p_less]
        by_cases e2 : l[((i + j) / 2).toNat] < t
        · refine ⟨((i + j) / 2 + 1, j), by simp only [decide_eq_true e2, condT, bindS], ⟨by simp only; omega, by simp only; omega, q3, fun k y hk hlt => ?_, q5⟩, by simp only; omega⟩
          simp only at hlt
          have := rising_le hr (show k ≤ ((i + j) / 2).toNat by omega) hk hy
          omega
        · refine ⟨(i, (i + j) / 2), by simp only [decide_eq_false e2, condF, bindS], ⟨q1, by simp only; omega, by simp only; omega, q4, fun k y hk hlt => ?_⟩, by simp only; omega⟩
          simp only at hlt
          have := rising_le hr (show ((i + j) / 2).toNat ≤ k by omega) hy hk
          omega
      · right
        have e1 := decide_eq_false e
        exact ⟨i, by simp only [e1, condF], q1, by omega, q4, fun k y hk h => q5 k y hk (by omega)⟩) (0, (l.length : Int)) ⟨by simp only; omega, by simp only; omega, by simp only; omega, fun k y hk h => by simp only at h; omega, fun k y hk h => by simp only at h; have := get_lt hk; omega⟩
  rw [h1, bindS]
  have hrest : ∀ y, P.slices_isNaN_116 y = some false := fun y => by unfold P.slices_isNaN_116; simp
  by_cases e : i < (l.length : Int)
  · have e1 := decide_eq_true e
    have hy : l[i.toNat]? = some l[i.toNat] := List.getElem?_eq_getElem (by omega)
    have hle := h4 _ _ hy (by omega)
    simp only [e1, condT, ixo_some h0 hy, bindS, hrest, condF]
    by_cases e2 : l[i.toNat] = t
    · have e3 := decide_eq_true e2
      refine ⟨i, true, by simp only [e3, condT, bindS], h0, h2, ?_⟩
      have := filter_len (l := l) (p := fun c => decide (c ≤ t)) (i := i.toNat + 1) (by omega) (fun j y hj hlt => decide_eq_true (by
        have := rising_le hr (show j ≤ i.toNat by omega) hj hy
        omega)) (fun j y hj hge => decide_eq_false (by
        have := rising_lt hr (j - i.toNat - 1) i.toNat _ y hy (by rw [show i.toNat + (j - i.toNat - 1) + 1 = j by omega]; exact hj)
        omega))
      rw [if_pos rfl]; omega
    · have e3 := decide_eq_false e2
      refine ⟨i, false, by simp only [e3, condF, bindS], h0, h2, ?_⟩
      have := filter_len (l := l) (p := fun c => decide (c ≤ t)) (i := i.toNat) (by omega) (fun j y hj hlt => decide_eq_true (by
        have := h3 j y hj (by omega)
        omega)) (fun j y hj hge => decide_eq_false (by
        have := rising_le hr (show i.toNat ≤ j by omega) hy hj
        omega))
      rw [if_neg (by decide)]; omega
  · have e1 := decide_eq_false e
    refine ⟨i, false, by simp only [e1, condF, bindS], h0, h2, ?_⟩
    have := filter_len (l := l) (p := fun c => decide (c ≤ t)) (i := i.toNat) (by omega) (fun j y hj hlt => decide_eq_true (by
      have := h3 j y hj (by omega)
      omega)) (fun j y hj hge => by have := get_lt hj; omega)
    rw [if_neg (by decide)]; omega
theorem p_lookup {β : Type} (s : Scale) (v : Int) (hs : scaleOk s = true) (hv : v ≠ -1) (K : Int → Option β) : (Option.bind (P.slices_BinarySearch_112 s.cuts v) fun (z46, z47) => Option.bind (Option.bind (cond z47 (Option.bind (chk .i64 (z46 + 1)) fun n56 => some n56) (some z46)) fun x57 => some x57) fun x58 => Option.bind (ixo s.points x58) K) = K (onScale s v) := by
  obtain ⟨hs1, hs2, hs3, hs4, hs5, hs6⟩ := scaleOk_iff.1 hs
  obtain ⟨i, b, h1, h2, h3, h4⟩ := p_search s.cuts v (by omega) ((rising_iff _).2 hs5)
  have hlt : (s.cuts.filter fun c => decide (c ≤ v)).length < s.points.length := by
    have := List.length_filter_le (fun c => decide (c ≤ v)) s.cuts
    omega
  have hy := List.getElem?_eq_getElem hlt
  have hon : onScale s v = s.points[(s.cuts.filter fun c => decide (c ≤ v)).length] := by
    unfold onScale; rw [if_neg hv, hy]; rfl
  rw [h1, bindS, hon]
  have hc : chk .i64 (i + 1) = some (i + 1) := chk_i64 (by omega)
  cases b with
  | true =>
    simp only [if_true] at h4
    simp only [condT, hc, bindS]
    rw [h4, ixo_at hy, bindS]
  | false =>
    simp only [Bool.false_eq_true, if_false] at h4
    simp only [condF, bindS, h4, ixo_at hy]
theorem p_cardPoints (c : Card) (x : List Int) (hc : cardOk c x.length = true) (hx : x.length ≤ 5) : P.score_card_points c x = some (onCard c x) := by
  obtain ⟨hc1, hc2, hc3, hc4, hsc⟩ := cardOk_iff.1 hc
  have hpt := pt_iff.1 hc3
  unfold P.score_card_points
  have hl := loop_fold c.scales.length (fun i => c.base + ((parts c x).take i).sum) (onCard c x)
    (body := (fun (x7, x8) => cond (decide (x8 < (c.scales.length : Int))) (Option.bind (Option.bind (ixo c.scales x8) fun y10 => Option.bind (ixo x x8) fun y30 => cond (decide (y30 = (-1))) (Option.bind (chk .i64 (x7 + y10.none_)) fun n38 => some n38) (Option.bind (ixo x x8) fun y39 => Option.bind (P.slices_BinarySearch_112 y10.cuts y39) fun (z46, z47) => Option.bind (Option.bind (cond z47 (Option.bind (chk .i64 (z46 + 1)) fun n56 => some n56) (some z46)) fun x57 => some x57) fun x58 => Option.bind (ixo y10.points x58) fun y59 => Option.bind (chk .i64 (x7 + y59)) fun n66 => some n66)) fun x67 => Option.bind (chk .i64 (x8 + 1)) fun n68 => some (.inl (x67, n68))) (some (.inr x7))))
    (fun i hi => by
      have hy := List.getElem?_eq_getElem hi
      have hi' : i < x.length := by omega
      have hz := List.getElem?_eq_getElem hi'
      have hp := parts_get hy hz
      have hs := hsc i _ hy
      have hb := onScale_bd x[i] hs
      have hsum := sum_succ hp
      have hbd := sum_bd (B := 1000000) ((parts c x).take i) (fun y hy => parts_bd hsc y (List.mem_of_mem_take hy))
      have hlen : ((parts c x).take i).length ≤ 5 := by rw [List.length_take, parts_len]; omega
      simp only [lt_cast hi, condT, ixo_at hy, ixo_at hz, bindS, chk_nat (i := i) (by omega)]
      by_cases e : x[i] = -1
      · have e1 := decide_eq_true e
        have hon : onScale c.scales[i] x[i] = c.scales[i].none_ := by unfold onScale; rw [if_pos e]
        rw [hon] at hb hsum
        simp only [e1, condT]
        rw [chk_i64 (by omega)]
        simp only [bindS]
        rw [hsum, Int.add_assoc]
      · have e1 := decide_eq_false e
        simp only [e1, condF]
        rw [p_lookup _ _ hs e, chk_i64 (by omega)]
        simp only [bindS]
        rw [hsum, Int.add_assoc]) (by
      simp only [not_lt_cast, condF]
      rw [List.take_of_length_le (by rw [parts_len]; exact Nat.le_refl _)]; rfl)
  simp only [List.take_zero, List.sum_nil, Int.add_zero] at hl
  rw [hl, bindS]
theorem p_treePoints (t : Tree) (x : List Int) (hc : treeOk t x.length = true) : P.score_tree_points t x = some (onTree t x) := by
  obtain ⟨ht1, ht2, ht3, ht4, htn⟩ := treeOk_iff.1 hc
  unfold P.score_tree_points
  have key : ∀ (k : Nat) (a : Int) (n : Node), 0 ≤ a → t.nodes[a.toNat]? = some n → t.nodes.length - a.toNat ≤ k → ∃ q : Int × Int × Int × Int × Int,
      loopM (S := Int × Int × Int × Int × Int) (R := (Int × Int × Int × Int × Int)) (fun (x25, x26, x27, x28, x29) => cond (!decide (x25 = (-1))) (Option.bind (Option.bind (ixo x x25) fun y31 => Option.bind (cond (decide (y31 < x26)) (Option.bind (ixo t.nodes x27) fun y42 => some (y42.trait, y42.cut, y42.low, y42.high, y42.points)) (Option.bind (ixo t.nodes x28) fun y56 => some (y56.trait, y56.cut, y56.low, y56.high, y56.points))) fun (x70, x71, x72, x73, x74) => some (x70, x71, x72, x73, x74)) fun (x75, x76, x77, x78, x79) => some (.inl (x75, x76, x77, x78, x79))) (some (.inr (x25, x26, x27, x28, x29)))) (n.trait, n.cut, n.low, n.high, n.points) = some q ∧ q.2.2.2.2 = onTreeFrom t x k a := by
    intro k
    induction k with
    | zero => intro a n h0 hn hk; have := get_lt hn; omega
    | succ k ih =>
      intro a n h0 hn hk
      by_cases e : n.trait = -1
      · have e1 := decide_eq_true e
        refine ⟨(n.trait, n.cut, n.low, n.high, n.points), loopM_end (by simp only [e1, notT, condF]), ?_⟩
        rw [onTree_leaf hn e]
      · have e1 := decide_eq_false e
        obtain ⟨q1, q2, q3, q4, q5, q6⟩ := node_asks (htn _ _ hn) e
        have hl2 : n.trait.toNat < x.length := by omega
        have hv := List.getElem?_eq_getElem hl2
        rw [onTree_step hn e hv]
        by_cases e2 : x[n.trait.toNat] < n.cut
        · have hy : t.nodes[n.low.toNat]? = some t.nodes[n.low.toNat] := List.getElem?_eq_getElem (by omega)
          obtain ⟨q, g1, g2⟩ := ih n.low _ (by omega) hy (by omega)
          refine ⟨q, ?_, by rw [if_pos e2]; exact g2⟩
          rw [← g1]
          refine loopM_go ?_
          simp only [e1, notF, condT, ixo_some q1 hv, bindS, decide_eq_true e2, ixo_some (show 0 ≤ n.low by omega) hy]
        · have hy : t.nodes[n.high.toNat]? = some t.nodes[n.high.toNat] := List.getElem?_eq_getElem (by omega)
          obtain ⟨q, g1, g2⟩ := ih n.high _ (by omega) hy (by omega)
          refine ⟨q, ?_, by rw [if_neg e2]; exact g2⟩
          rw [← g1]
          refine loopM_go ?_
          simp only [e1, notF, condT, condF, ixo_some q1 hv, bindS, decide_eq_false e2, ixo_some (show 0 ≤ n.high by omega) hy]
  have hy : t.nodes[(0 : Int).toNat]? = some t.nodes[(0 : Int).toNat] := List.getElem?_eq_getElem (by simp; omega)
  obtain ⟨⟨q1, q2, q3, q4, q5⟩, g1, g2⟩ := key t.nodes.length 0 _ (Int.le_refl _) hy (by simp)
  rw [ixo_some (Int.le_refl _) hy, bindS, g1, bindS]
  exact congrArg some g2
theorem p_cardRight (c : Card) (traits : Int) (h : c.scales.length ≤ 10) (hs : ∀ s ∈ c.scales, s.cuts.length ≤ 10 ∧ s.points.length ≤ 12) : P.score_card_right c traits = some (pt c.base && decide ((c.scales.length : Int) = traits) && c.scales.all scaleOk) := by
  unfold P.score_card_right
  rw [p_counts _ (by simp), p_has130 c.scales _ (fun s => !scaleOk s) (fun s hm => by
    unfold P.score_card_right_in1
    rw [show (Scale.mk s.cuts s.points s.none_) = s from rfl, p_measured s (hs s hm).1 (hs s hm).2, bindS]) (by omega)]
  simp only [List.all_cons, List.all_nil, Bool.and_true, bindS]
  rw [List.all_eq_not_any_not]
  cases pt c.base <;> cases decide ((c.scales.length : Int) = traits) <;> simp
theorem p_treeRight (t : Tree) (traits : Int) (h : t.nodes.length ≤ 20) (ht : 1 ≤ traits ∧ traits ≤ 5) : P.score_tree_right t traits = some (decide (1 ≤ t.nodes.length ∧ t.nodes.length ≤ 7) && t.nodes.zipIdx.all fun p => nodeOk traits t.nodes.length p.2 p.1) := by
  unfold P.score_tree_right
  rw [loop_any t.nodes (fun y i => !nodeOk traits t.nodes.length i y) (.inr false) (.inl ()) (fun i y hy => by
    have hi := get_lt hy
    have hc : chk .i64 (traits - 1) = some (traits - 1) := chk_i64 (by omega)
    have hc2 : chk .i64 ((t.nodes.length : Int) - 1) = some ((t.nodes.length : Int) - 1) := chk_i64 (by omega)
    simp only [lt_cast hi, condT, ixo_at hy, bindS, hc, hc2, chk_nat (i := i) (by omega), p_swithin 0 (traits - 1) [y.trait] (by simp), p_swithin 1 1000000 [y.cut] (by simp), p_swithin ((i : Int) + 1) ((t.nodes.length : Int) - 1) [y.low, y.high] (by simp), p_counts [y.points] (by simp), List.all_cons, List.all_nil, Bool.and_true]
    have key : (bif decide (0 ≤ y.trait ∧ y.trait ≤ traits - 1) then bif decide (1 ≤ y.cut ∧ y.cut ≤ 1000000) then
        bif (decide ((i : Int) + 1 ≤ y.low ∧ y.low ≤ (t.nodes.length : Int) - 1) && decide ((i : Int) + 1 ≤ y.high ∧ y.high ≤ (t.nodes.length : Int) - 1)) then
        bif !decide (y.low = y.high) then some (decide (y.points = 0)) else some false else some false else some false else some false) =
        some (decide (0 ≤ y.trait ∧ y.trait ≤ traits - 1 ∧ 1 ≤ y.cut ∧ y.cut ≤ 1000000 ∧ (i : Int) < y.low ∧ (i : Int) < y.high ∧ y.low < t.nodes.length ∧ y.high < t.nodes.length ∧ y.low ≠ y.high ∧ y.points = 0)) := by
      simp only [Bool.cond_eq_ite, Bool.not_eq_true', decide_eq_true_eq, decide_eq_false_iff_not, Bool.and_eq_true]
      repeat' split
      all_goals (congr 1; rw [Bool.eq_iff_iff]; simp only [Bool.false_eq_true, false_iff, decide_eq_true_eq] <;> omega)
    rw [key]
    simp only [bindS]
    have e6 : decide (Node.mk y.trait y.cut y.low y.high y.points = Node.mk (-1) 0 0 0 y.points) = decide (y.trait = -1 ∧ y.cut = 0 ∧ y.low = 0 ∧ y.high = 0) := by
      rw [Bool.eq_iff_iff, decide_eq_true_eq, decide_eq_true_eq, Node.mk.injEq]
      simp
    rw [e6]
    unfold nodeOk
    cases pt y.points <;> cases decide (y.trait = -1 ∧ y.cut = 0 ∧ y.low = 0 ∧ y.high = 0) <;> cases decide (0 ≤ y.trait ∧ y.trait ≤ traits - 1 ∧ 1 ≤ y.cut ∧ y.cut ≤ 1000000 ∧ (i : Int) < y.low ∧ (i : Int) < y.high ∧ y.low < t.nodes.length ∧ y.high < t.nodes.length ∧ y.low ≠ y.high ∧ y.points = 0) <;> simp) (by simp only [not_lt_cast, condF])]
  rw [p_swithin 1 7 [(t.nodes.length : Int)] (by simp)]
  simp only [bindS, List.all_cons, List.all_nil, Bool.and_true]
  rw [List.all_eq_not_any_not]
  have e1 : decide (1 ≤ (t.nodes.length : Int) ∧ (t.nodes.length : Int) ≤ 7) = decide (1 ≤ t.nodes.length ∧ t.nodes.length ≤ 7) := by
    rw [Bool.eq_iff_iff]; simp only [decide_eq_true_eq]; omega
  rw [e1]
  cases (t.nodes.zipIdx.any fun p => !nodeOk traits t.nodes.length p.2 p.1) with
  | true => simp only [condT, elimRS]; simp
  | false => simp only [condF, elimLS]; simp
end S
end Go.Proofs.YtecmlmngcnionaaGreat
namespace Go.Proofs.YtecmlmngcnionaaGreat
open Go Go.Sx
namespace S
def partsOf (m : Model) : List I70 := m.cards.map I70.c83 ++ m.trees.map I70.c84
def worksOf (m : Model) : Works := if modelOk m then Works.mk m (partsOf m) else Works.mk (Model.mk 0 [] [] 0) []
def badPart (traits : Int) : I70 → Bool
  | .c83 c => !cardOk c traits
  | .c84 t => !treeOk t traits
theorem partsOf_len (m : Model) : (partsOf m).length = m.cards.length + m.trees.length := by simp [partsOf]
theorem p_part (m : Model) (hs : Small m) (ht : 1 ≤ m.traits ∧ m.traits ≤ 5) (p : I70) (hp : p ∈ partsOf m) : P.score_open_in1 p m = some (badPart m.traits p) := by
  unfold P.score_open_in1
  rcases List.mem_append.1 hp with h | h
  · obtain ⟨c, hc, rfl⟩ := List.mem_map.1 h
    unfold P.M70_weight P.M70_right P.score_card_weight
    simp only [bindS, p_swithin 0 1000 [c.weight] (by simp), p_cardRight c m.traits (hs.scales c hc) (hs.cuts c hc), List.all_cons, List.all_nil, Bool.and_true]
    show _ = some (!cardOk c m.traits)
    unfold cardOk
    cases decide (0 ≤ c.weight ∧ c.weight ≤ 1000) with
    | false => simp only [notF, condT, bindS, Bool.false_and]
    | true => simp only [notT, condF, bindS, Bool.true_and]
  · obtain ⟨c, hc, rfl⟩ := List.mem_map.1 h
    unfold P.M70_weight P.M70_right P.score_tree_weight
    simp only [bindS, p_swithin 0 1000 [c.weight] (by simp), p_treeRight c m.traits (hs.nodes c hc) ht, List.all_cons, List.all_nil, Bool.and_true]
    show _ = some (!treeOk c m.traits)
    unfold treeOk
    cases decide (0 ≤ c.weight ∧ c.weight ≤ 1000) with
    | false => simp only [notF, condT, bindS, Bool.false_and]
    | true => simp only [notT, condF, bindS, Bool.true_and]
theorem any_parts (m : Model) : (partsOf m).any (badPart m.traits) = !(m.cards.all (cardOk · m.traits) && m.trees.all (treeOk · m.traits)) := by
  unfold partsOf
  rw [List.any_append, List.any_map, List.any_map, Bool.not_and, List.all_eq_not_any_not, List.all_eq_not_any_not, Bool.not_not, Bool.not_not]
  rfl
theorem p_open (m : Model) (hs : Small m) : P.score_open m = some (worksOf m, check m) := by
  have hc6 := hs.cards
  have ht6 := hs.trees
  unfold P.score_open
  have hl := loop_fold' m.cards.length (fun i => (m.cards.take i).map I70.c83) (m.cards.map I70.c83)
    (body := (fun (x18, x19) => cond (decide (x18 < (m.cards.length : Int))) (Option.bind (ixo m.cards x18) fun y21 => Option.bind (appo 16 x19 ([(I70.c83 (Card.mk y21.weight y21.base y21.scales))] : List I70)) fun l46 => Option.bind (chk .i64 (x18 + 1)) fun n54 => some (.inl (n54, l46))) (some (.inr x19))))
    (fun i hi => by
      have hy := List.getElem?_eq_getElem hi
      simp only [lt_cast hi, condT, ixo_at hy, bindS, chk_nat (i := i) (by omega)]
      rw [appo_ok (by simp; omega) (by simp; omega)]
      simp only [bindS]
      rw [map_succ hy]) (by simp only [not_lt_cast, condF, List.take_length])
  simp only [List.take_zero, List.map_nil] at hl
  rw [hl, bindS]
  have hl2 := loop_fold' m.trees.length (fun i => m.cards.map I70.c83 ++ (m.trees.take i).map I70.c84) (partsOf m)
    (body := (fun (x56, x57) => cond (decide (x56 < (m.trees.length : Int))) (Option.bind (ixo m.trees x56) fun y59 => Option.bind (appo 16 x57 ([(I70.c84 (Tree.mk y59.weight y59.nodes))] : List I70)) fun l83 => Option.bind (chk .i64 (x56 + 1)) fun n91 => some (.inl (n91, l83))) (some (.inr x57))))
    (fun i hi => by
      have hy := List.getElem?_eq_getElem hi
      simp only [lt_cast hi, condT, ixo_at hy, bindS, chk_nat (i := i) (by omega)]
      rw [appo_ok (by simp; omega) (by simp; omega)]
      simp only [bindS]
      rw [map_succ hy, List.append_assoc]) (by simp only [not_lt_cast, condF, List.take_length]; rfl)
  simp only [List.take_zero, List.map_nil, List.append_nil] at hl2
  rw [hl2, bindS, show (Model.mk m.traits m.cards m.trees m.need) = m from rfl, p_swithin 1 5 [m.traits] (by simp), p_counts [m.need] (by simp)]
  simp only [bindS, List.all_cons, List.all_nil, Bool.and_true]
  have hw : worksOf m = if modelOk m then Works.mk m (partsOf m) else Works.mk (Model.mk 0 [] [] 0) [] := rfl
  rw [hw]
  unfold check modelOk
  cases e1 : decide (1 ≤ m.traits ∧ m.traits ≤ 5) with
  | false => simp only [notF, condT, bindS, Bool.false_and, Bool.false_eq_true, if_false]
  | true =>
    have e1 := of_decide_eq_true e1
    simp only [notT, condF, Bool.true_and]
    cases e2 : pt m.need with
    | false => simp only [notF, condT, bindS, Bool.false_and, Bool.false_eq_true, if_false]
    | true =>
      simp only [notT, condF, Bool.true_and]
      by_cases e3 : m.cards.length ≤ 2
      · have e3' : decide ((2 : Int) < m.cards.length) = false := decide_eq_false (by omega)
        simp only [e3, e3', decide_true, condF, Bool.true_and]
        by_cases e4 : m.trees.length ≤ 2
        · have e4' : decide ((2 : Int) < m.trees.length) = false := decide_eq_false (by omega)
          simp only [e4, e4', decide_true, condF, Bool.true_and]
          rw [p_has54 (partsOf m) _ (badPart m.traits) (fun p hp => p_part m hs e1 p hp) (by rw [partsOf_len]; omega), any_parts]
          cases (m.cards.all (cardOk · m.traits) && m.trees.all (treeOk · m.traits)) with
          | true => simp only [bindS, notT, condF, if_true]
          | false => simp only [bindS, notF, condT, Bool.false_eq_true, if_false]
        · have e4' : decide ((2 : Int) < m.trees.length) = true := decide_eq_true (by omega)
          simp only [e4, e4', decide_false, condT, bindS, Bool.false_and, Bool.false_eq_true, if_false]
      · have e3' : decide ((2 : Int) < m.cards.length) = true := decide_eq_true (by omega)
        simp only [e3, e3', decide_false, condT, bindS, Bool.false_and, Bool.false_eq_true, if_false]
theorem p_asked (m : Model) (x : List Int) (hs : Small m) (hx : x.length ≤ 10) : P.score_asked m x = some (worksOf m, err m x) := by
  unfold P.score_asked
  rw [show (Model.mk m.traits m.cards m.trees m.need) = m from rfl, p_open m hs, bindS, p_swithin (-1) 1000000 x (by omega)]
  unfold check err valuesOk
  cases h1 : modelOk m with
  | false =>
    have : decide ((60 : Int) = 0) = false := by decide
    simp only [Bool.false_eq_true, if_false, this, condF, bindS]
  | true =>
    simp only [if_true, decide_true, condT, bindS]
    cases h2 : decide ((x.length : Int) = m.traits) with
    | false => simp only [notF, condT, bindS, Bool.false_and, Bool.false_eq_true, if_false]
    | true =>
      simp only [notT, condF, Bool.true_and]
      cases (x.all fun v => decide (-1 ≤ v ∧ v ≤ 1000000)) with
      | false => simp only [bindS, notF, condT, Bool.false_eq_true, if_false]
      | true => simp only [bindS, notT, condF, if_true]
theorem parts_at (m : Model) (x : List Int) (hm : modelOk m = true) (hx : valuesOk m x = true) {i : Nat} {y : Int} (hy : (all m x)[i]? = some y) : ∃ p, (partsOf m)[i]? = some p ∧ P.M70_weight p = some (weightAt m i) ∧ P.M70_points p x = some y := by
  obtain ⟨hm1, hm2, hm3, hm4, hm5, hm6, hm7⟩ := modelOk_iff.1 hm
  obtain ⟨hv1, hv2⟩ := valuesOk_iff.1 hx
  have hi := get_lt hy
  rw [all_len] at hi
  unfold all at hy
  unfold partsOf
  rcases Nat.lt_or_ge i m.cards.length with h | h
  · have hc := List.getElem?_eq_getElem h
    refine ⟨.c83 m.cards[i], ?_, ?_, ?_⟩
    · rw [List.getElem?_append_left (by simpa using h), List.getElem?_map, hc]; rfl
    · rw [weightAt_card hc]; rfl
    · rw [List.getElem?_append_left (by simpa using h), List.getElem?_map, hc] at hy
      simp only [Option.map_some, Option.some.injEq] at hy
      show P.score_card_points _ _ = _
      rw [p_cardPoints _ _ (by rw [hv1]; exact hm6 _ _ hc) (by omega), hy]
  · have h3 : i - m.cards.length < m.trees.length := by omega
    have hc := List.getElem?_eq_getElem h3
    refine ⟨.c84 m.trees[i - m.cards.length], ?_, ?_, ?_⟩
    · rw [List.getElem?_append_right (by simpa using h), List.getElem?_map, List.length_map, hc]; rfl
    · rw [weightAt_tree (by omega) hc]; rfl
    · rw [List.getElem?_append_right (by simpa using h), List.getElem?_map, List.length_map, hc] at hy
      simp only [Option.map_some, Option.some.injEq] at hy
      show P.score_tree_points _ _ = _
      rw [p_treePoints _ _ (by rw [hv1]; exact hm7 _ _ hc), hy]
theorem weightAt_bd (m : Model) (hm : modelOk m = true) {i : Nat} (hi : i < m.cards.length + m.trees.length) : 0 ≤ weightAt m i ∧ weightAt m i ≤ 1000 := by
  obtain ⟨hm1, hm2, hm3, hm4, hm5, hm6, hm7⟩ := modelOk_iff.1 hm
  rcases Nat.lt_or_ge i m.cards.length with h2 | h2
  · have hc := List.getElem?_eq_getElem h2
    have hk := cardOk_iff.1 (hm6 _ _ hc)
    rw [weightAt_card hc]; exact ⟨hk.1, hk.2.1⟩
  · have h3 : i - m.cards.length < m.trees.length := by omega
    have hc := List.getElem?_eq_getElem h3
    have hk := treeOk_iff.1 (hm7 _ _ hc)
    rw [weightAt_tree (by omega) hc]; exact ⟨hk.1, hk.2.1⟩
theorem scoreTo_bd (m : Model) (x : List Int) (hm : modelOk m = true) : ∀ i : Nat, i ≤ (all m x).length → -6000000000 * (i : Int) ≤ scoreTo m x i ∧ scoreTo m x i ≤ 6000000000 * (i : Int)
  | 0, _ => by simp [scoreTo]
  | i + 1, hi => by
    have ih := scoreTo_bd m x hm i (by omega)
    have hy := List.getElem?_eq_getElem (show i < (all m x).length by omega)
    rw [scoreTo_succ hy]
    have hb := all_bd (x := x) hm _ _ hy
    have hw := weightAt_bd m hm (i := i) (by rw [← all_len (x := x)]; omega)
    have := mul_bd hw.1 hw.2 hb
    omega
theorem p_worksScore (m : Model) (x : List Int) (hm : modelOk m = true) (hx : valuesOk m x = true) : P.score_works_score (Works.mk m (partsOf m)) x = some (score m x) := by
  obtain ⟨hm1, hm2, hm3, hm4, hm5, hm6, hm7⟩ := modelOk_iff.1 hm
  unfold P.score_works_score
  have hal := all_len (m := m) (x := x)
  have hpl := partsOf_len m
  have hl := loop_fold (all m x).length (scoreTo m x) (score m x)
    (body := (fun (x7, x8) => cond (decide (x8 < ((partsOf m).length : Int))) (Option.bind (ixo (partsOf m) x8) fun y10 => Option.bind (P.M70_weight y10) fun z18 => Option.bind (P.M70_points y10 x) fun z23 => Option.bind (chk .i64 (z18 * z23)) fun n28 => Option.bind (chk .i64 (x7 + n28)) fun n29 => Option.bind (chk .i64 (x8 + 1)) fun n30 => some (.inl (n29, n30))) (some (.inr x7))))
    (fun i hi => by
      have hy := List.getElem?_eq_getElem hi
      obtain ⟨p, g1, g2, g3⟩ := parts_at m x hm hx hy
      have hb := all_bd (x := x) hm _ _ hy
      have hw := weightAt_bd m hm (i := i) (by omega)
      have hs := scoreTo_bd m x hm i (by omega)
      have := mul_bd hw.1 hw.2 hb
      rw [scoreTo_succ hy]
      simp only [lt_cast (get_lt g1), condT, ixo_at g1, bindS, g2, g3, chk_nat (i := i) (by omega)]
      rw [chk_i64 (by omega), bindS, chk_i64 (by omega)]
      simp only [bindS]) (by rw [hal, ← hpl]; simp only [not_lt_cast, condF]; rw [hpl, ← hal, score_eq])
  rw [show scoreTo m x 0 = 0 from by simp [scoreTo]] at hl
  rw [hl, bindS]
theorem seto_same {α : Type} {l : List α} {i : Nat} {y : α} (h : l[i]? = some y) : seto l (i : Int) y = some l := by
  have hi := get_lt h
  unfold seto
  rw [if_pos ⟨by omega, by omega⟩, Int.toNat_natCast]
  congr 1
  rw [List.getElem?_eq_getElem hi] at h
  cases h
  simp
theorem set_same {α : Type} {l : List α} {i : Nat} {y : α} (h : l[i]? = some y) : l.set (i : Int).toNat y = l := by
  have h2 := seto_same h
  unfold seto at h2
  have hi := get_lt h
  rw [if_pos ⟨by omega, by omega⟩] at h2
  exact Option.some.inj h2
theorem loop_still {A R : Type} {body : Int × A → Option (Int × A ⊕ R)} (n : Nat) (a : A) (r : R)
    (hb : ∀ i < n, body ((i : Int), a) = some (.inl ((i : Int) + 1, a))) (he : body ((n : Int), a) = some (.inr r)) : loopM body (0, a) = some r :=
  loop_fold' n (fun _ => a) r hb he
theorem p_Twin (m : Model) (hs : Small m) : P.ref06_Twin m = some m := by
  have hc6 := hs.cards
  have ht6 := hs.trees
  unfold P.ref06_Twin
  rw [appo_ok (by simp; omega) (by simp; omega), bindS, List.nil_append, appo_ok (by simp; omega) (by simp; omega), List.nil_append]
  rw [loop_still m.cards.length m.cards m.cards (body := (fun (x21, x22) => cond (decide (x21 < (x22.length : Int))) (Option.bind (ixo x22 x21) fun y25 => Option.bind (appo 56 ([] : List Scale) y25.scales) fun l42 => Option.bind (ixo x22 x21) fun y51 => Option.bind (loopM (S := Int × (List Scale)) (R := ((List Scale))) (fun (x80, x81) => cond (decide (x80 < (x81.length : Int))) (Option.bind (ixo x81 x80) fun y89 => Option.bind (appo 8 ([] : List Int) y89.cuts) fun l109 => Option.bind (appo 8 ([] : List Int) y89.points) fun l121 => Option.bind (seto x81 x80 (Scale.mk l109 y89.points y89.none_)) fun l146 => Option.bind (seto l146 x80 (Scale.mk ((Scale.mk l109 y89.points y89.none_).cuts) l121 ((Scale.mk l109 y89.points y89.none_).none_))) fun l169 => Option.bind (chk .i64 (x80 + 1)) fun n176 => some (.inl (n176, l169))) (some (.inr x81))) (0, l42)) fun x177 => Option.bind (chk .i64 (x21 + 1)) fun n178 => some (.inl (n178, (x22.set x21.toNat (Card.mk y51.weight y51.base x177))))) (some (.inr x22))))
    (fun i hi => by
      have hy := List.getElem?_eq_getElem hi
      have hsc := hs.scales _ (List.getElem_mem hi)
      have hcu := hs.cuts _ (List.getElem_mem hi)
      simp only [lt_cast hi, condT, ixo_at hy, bindS, chk_nat (i := i) (by omega)]
      rw [appo_ok (by simp; omega) (by simp; omega), bindS, List.nil_append]
      rw [loop_still m.cards[i].scales.length m.cards[i].scales m.cards[i].scales (body := (fun (x80, x81) => cond (decide (x80 < (x81.length : Int))) (Option.bind (ixo x81 x80) fun y89 => Option.bind (appo 8 ([] : List Int) y89.cuts) fun l109 => Option.bind (appo 8 ([] : List Int) y89.points) fun l121 => Option.bind (seto x81 x80 (Scale.mk l109 y89.points y89.none_)) fun l146 => Option.bind (seto l146 x80 (Scale.mk ((Scale.mk l109 y89.points y89.none_).cuts) l121 ((Scale.mk l109 y89.points y89.none_).none_))) fun l169 => Option.bind (chk .i64 (x80 + 1)) fun n176 => some (.inl (n176, l169))) (some (.inr x81))))
        (fun k hk => by
          have hz := List.getElem?_eq_getElem hk
          have hcp := hcu _ (List.getElem_mem hk)
          have hset := seto_same hz
          simp only [lt_cast hk, condT, ixo_at hz, bindS, chk_nat (i := k) (by omega)]
          rw [appo_ok (by simp; omega) (by simp; omega), bindS, List.nil_append, appo_ok (by simp; omega) (by simp; omega), bindS, List.nil_append]
          simp only [hset, bindS]) (by simp only [not_lt_cast, condF]), bindS]
      rw [show (Card.mk m.cards[i].weight m.cards[i].base m.cards[i].scales) = m.cards[i] from rfl, set_same hy]) (by simp only [not_lt_cast, condF]), bindS, bindS]
  rw [loop_still m.trees.length m.trees m.trees (body := (fun (x195, x196) => cond (decide (x195 < (x196.length : Int))) (Option.bind (ixo x196 x195) fun y199 => Option.bind (appo 40 ([] : List Node) y199.nodes) fun l215 => Option.bind (ixo x196 x195) fun y224 => Option.bind (seto x196 x195 (Tree.mk y224.weight l215)) fun l247 => Option.bind (chk .i64 (x195 + 1)) fun n254 => some (.inl (n254, l247))) (some (.inr x196))))
    (fun i hi => by
      have hy := List.getElem?_eq_getElem hi
      have hn := hs.nodes _ (List.getElem_mem hi)
      have hset := seto_same hy
      simp only [lt_cast hi, condT, ixo_at hy, bindS, chk_nat (i := i) (by omega)]
      rw [appo_ok (by simp; omega) (by simp; omega), bindS, List.nil_append]
      simp only [hset, bindS]) (by simp only [not_lt_cast, condF]), bindS]
theorem any_false {α : Type} (l : List α) : (l.any fun _ => false) = false := by simp
theorem p_Same (m : Model) (hs : Small m) : P.ref06_Same m m = some true := by
  have hc6 := hs.cards
  have ht6 := hs.trees
  unfold P.ref06_Same
  simp only [decide_true, notT, condF, bindS]
  rw [loop_any0 m.cards (fun _ => false) (.inr false) (.inl ()) (fun i y hy => by
    have hi := get_lt hy
    have hsc := hs.scales _ (List.mem_of_getElem? hy)
    have hcu := hs.cuts _ (List.mem_of_getElem? hy)
    simp only [lt_cast hi, condT, ixo_at hy, bindS, decide_true, notT, condF, chk_nat (i := i) (by omega)]
    rw [loop_any0 y.scales (fun _ => false) (.inr false) (.inl ()) (fun k z hz => by
      have hk := get_lt hz
      have hcp := hcu _ (List.mem_of_getElem? hz)
      simp only [lt_cast hk, condT, ixo_at hz, bindS, decide_true, notT, condF, chk_nat (i := k) (by omega), p_ints z.cuts z.cuts (by omega), p_ints z.points z.points (by omega)]) (by simp only [not_lt_cast, condF]), any_false]
    simp only [condF, bindS, elimLS]) (by simp only [not_lt_cast, condF]), any_false]
  simp only [condF, bindS, elimLS]
  rw [loop_any0 m.trees (fun _ => false) (.inr false) (.inl ()) (fun i y hy => by
    have hi := get_lt hy
    have hn := hs.nodes _ (List.mem_of_getElem? hy)
    simp only [lt_cast hi, condT, ixo_at hy, bindS, decide_true, notT, condF, chk_nat (i := i) (by omega)]
    rw [loop_any0 y.nodes (fun _ => false) (.inr false) (.inl ()) (fun k z hz => by
      have hk := get_lt hz
      simp only [lt_cast hk, condT, ixo_at hz, bindS, decide_true, notT, condF, chk_nat (i := k) (by omega)]) (by simp only [not_lt_cast, condF]), any_false]
    simp only [condF, bindS, elimLS]) (by simp only [not_lt_cast, condF]), any_false]
  simp only [condF, bindS, elimLS]
end S
end Go.Proofs.YtecmlmngcnionaaGreat
