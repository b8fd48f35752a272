/-
  Part 5 of the texts that the statement's proof stands on: what memory holds, how code is walked, what the functions reckon. In the order in which they build.
-/
import Derived.Laws.MakeOwn
import Derived.Sort.Row
import Derived.Sort.Grow
import Derived.Maps.Own
import Derived.Test.YtecmlmngcnionaaSe4
set_option linter.unusedVariables false
set_option maxRecDepth 20000
namespace Go.Proofs.Ytecmlmngcnionaa
open Go Go.Sx Go.RowKit
inductive I87 where
 | c105 (x : Card)
 | c106 (x : Tree)
def I87E : Enc I87 where
 n := 1
 pos := by decide
 R := fun M w cs x => match x with
  | .c105 y => ∃ ds, cs = [.iface 105 (.agg ds.toArray)] ∧ CardE.R M w ds y
  | .c106 y => ∃ ds, cs = [.iface 106 (.agg ds.toArray)] ∧ TreeE.R M w ds y
 len := fun {M w cs} {x} h => by
  cases x with
  | c105 y => obtain ⟨ds, rfl, hR⟩ := h; rfl
  | c106 y => obtain ⟨ds, rfl, hR⟩ := h; rfl
 kp := fun {M w w' cs} {x} hk h => by
  cases x with
  | c105 y => obtain ⟨ds, rfl, hR⟩ := h; exact ⟨ds, rfl, CardE.kp hk hR⟩
  | c106 y => obtain ⟨ds, rfl, hR⟩ := h; exact ⟨ds, rfl, TreeE.kp hk hR⟩
 mon := fun {M M' w cs} {x} hm h => by
  cases x with
  | c105 y => obtain ⟨ds, rfl, hR⟩ := h; exact ⟨ds, rfl, CardE.mon hm hR⟩
  | c106 y => obtain ⟨ds, rfl, hR⟩ := h; exact ⟨ds, rfl, TreeE.mon hm hR⟩
 one := fun {M w cs} {x} h u hu => by
  cases x with
  | c105 y => obtain ⟨ds, rfl, hR⟩ := h; simp at hu; subst hu; rfl
  | c106 y => obtain ⟨ds, rfl, hR⟩ := h; simp at hu; subst hu; rfl
theorem I87E_c105 {M : List Nat} {w : World} {ds : List Value} {y : Card} (h : CardE.R M w ds y) : I87E.R M w [.iface 105 (.agg ds.toArray)] (.c105 y) := ⟨ds, rfl, h⟩
theorem I87E_c106 {M : List Nat} {w : World} {ds : List Value} {y : Tree} (h : TreeE.R M w ds y) : I87E.R M w [.iface 106 (.agg ds.toArray)] (.c106 y) := ⟨ds, rfl, h⟩
theorem I87E_one {M : List Nat} {w : World} {cs : List Value} {x : I87} (h : I87E.R M w cs x) : ∃ v, cs = [v] ∧ I87E.R M w [v] x := by
 cases x with
 | c105 y => obtain ⟨ds, rfl, hR⟩ := h; exact ⟨_, rfl, ds, rfl, hR⟩
 | c106 y => obtain ⟨ds, rfl, hR⟩ := h; exact ⟨_, rfl, ds, rfl, hR⟩
@[ext] structure Works where
 model : Model
 parts : (List I87)
attribute [grind ext] Works.ext
noncomputable def P.slices_IndexFunc_66 (s : (List I87)) (f : I87 → Option Bool) : Option Int :=
 Option.bind (loopM (S := Int) (R := (Unit) ⊕ (Int)) (fun x1 => cond (decide (x1 < (s.length : Int))) (Option.bind (ixo s x1) fun y3 => Option.bind (f y3) fun z11 => cond z11 (some (.inr (.inr x1))) (Option.bind (chk .i64 (x1 + 1)) fun n17 => some (.inl n17))) (some (.inr (.inl ())))) 0) fun j18 => Sum.elim (fun _ => some (-1)) (fun r19 => some r19)  j18
theorem C_slices_IndexFunc_66 {M : List Nat} {w : World} (hM : MLt M w) {s : (List I87)} {v_s_0 : Value} (f_s_0 : RdS I87E M w v_s_0 s) {v_f : Value} {f : I87 → Option Bool} (f_f : ∀ (x0 : I87) (vx0_0 : Value) (r : Bool) (w1 : World), Kp [] w w1 → I87E.R M w1 [vx0_0] x0 → f x0 = some r → CallsV Try.prog v_f [vx0_0] w1 fun e w2 => e = .returned (Value.bool r) ∧ Ext w1 w2) {r0 : Int} (h : P.slices_IndexFunc_66 s f = some r0) :
  Calls Try.prog 66 (List.toArray [v_s_0, v_f]) w fun e w' => e = .returned (Value.int .i64 r0) ∧ InK .i64 r0 ∧ Ext w w' := by
 have hI := Hp.start (Mu := []) hM
 refine calls_cw Try.func66 rfl Try.ntmps66 rfl ?_
 refine cw_seq (cw_regF ?_)
 refine s_as rfl rfl ?_
 refine Reg.nil ?_
 refine cw_seq (cw_seq (cw_regF ?_))
 refine s_mv rfl rfl ?_
 refine s_len rfl f_s_0 Try.underlying78 rfl ?_
 refine s_mv rfl rfl ?_
 refine Reg.nil ?_
 obtain ⟨j1, h2, h⟩ := bnd h
 refine cw_sub (L := [(0, _), (1, _), (7, _), (8, _)]) (Sub.cons rfl (Sub.cons rfl (Sub.cons rfl (Sub.cons rfl (Sub.nil _))))) ?_
 refine cw_unitD 4 (ι := Unit) (fun _ => []) (fun _ => fun w3 => Hp w [] M [] w3 ∧ Adv (mm [] M) (mm [] M) w w3 ∧ (.inl ()) = j1) ?_ ?_
 ·skip
  refine cw_block ?_
  refine cw_sub (L := [(8, _), (0, _), (1, _), (7, _)]) (Sub.cons rfl (Sub.cons rfl (Sub.cons rfl (Sub.cons rfl (Sub.nil _))))) ?_
  refine cw_loopM 1 (ι := Int) _ (fun x6 => [(8, Value.int .i64 x6)]) (fun x6 => x6) (fun x6 => fun w8 => Hp w [] M [] w8 ∧ Adv (mm [] M) (mm [] M) w w8 ∧ InK .i64 x6) 0 h2 ⟨hI, (Adv.refl _ _), (by decide)⟩ (Sub.cons rfl (Sub.cons rfl (Sub.cons rfl (Sub.cons rfl (Sub.nil _))))) ?_
  rintro x6 w8 ⟨hI9, hA10, r7⟩ y11 h12 hR13
  refine cw_seq (cw_regF ?_)
  refine s_lss rfl rfl rfl ?_
  refine Reg.nil ?_
  refine cw_seq ?_
  refine cw_cond rfl (fun hc14 => ?_) (fun hc14 => ?_)
  ·replace h12 := cdT hc14 h12
   refine cw_skip ?_
   refine cw_seq ?_
   refine cw_block ?_
   refine cw_seq (cw_regF ?_)
   refine s_mv rfl rfl ?_
   refine s_as rfl rfl ?_
   refine Reg.nil ?_
   refine cw_seq (cw_regF ?_)
   refine s_mv rfl rfl ?_
   refine s_mv rfl rfl ?_
   refine s_mv rfl rfl ?_
   obtain ⟨y15, hy15, h12⟩ := bnd h12
   refine p_ia rfl rfl (f_s_0.adv hI9.adv) hy15 Try.underlying78 Try.sizeOf87 rfl ?_
   intro b16 o17 cs18 hR19 hC20
   obtain ⟨v21, rfl, hf22⟩ := I87E_one hR19
   refine s_ld rfl (hC20.cells.at 0 rfl) Try.isAgg87 rfl ?_
   obtain ⟨z23, hz23, h12⟩ := bnd h12
   refine s_callV rfl rfl rfl ?_
   refine (f_f _ _ _ _ hI9.kp hf22 hz23).mono ?_
   rintro _ w24 ⟨rfl, e25⟩
   refine ⟨_, rfl, ?_⟩
   have hI27 := hI9.ext e25
   refine Reg.nil ?_
   refine cw_cond rfl (fun hc28 => ?_) (fun hc28 => ?_)
   ·replace h12 := cdT hc28 h12
    refine cw_seq (cw_regF ?_)
    refine s_mv rfl rfl ?_
    refine s_as rfl rfl ?_
    refine Reg.nil ?_
    refine cw_ret ?_
    obtain rfl := Option.some.inj h12
    obtain rfl := hR13 _ rfl
    replace h := elimR h
    obtain rfl := Option.some.inj h
    refine fin1 Try.results66 rfl ?_
    exact ⟨rfl, r7, hI27.kp⟩
   ·replace h12 := cdF hc28 h12
    refine cw_skip ?_
    refine cw_regF ?_
    obtain ⟨n29, hn29, h12⟩ := bnd h12
    replace hn29 := chk_out hn29
    refine p_add rfl rfl rfl hn29 ?_
    refine s_mv rfl rfl ?_
    refine Reg.nil ?_
    obtain rfl := Option.some.inj h12
    refine ⟨rfl, n29, ⟨⟨hI27, hI27.adv, hn29.2⟩, rfl⟩, Sub.cons rfl (Sub.cons rfl (Sub.cons rfl (Sub.cons rfl (Sub.nil _))))⟩
  ·replace h12 := cdF hc14 h12
   refine cw_exit ?_
   refine exB_same ?_
   obtain rfl := Option.some.inj h12
   obtain rfl := hR13 _ rfl
   refine ⟨rfl, (), ⟨hI9, hI9.adv, rfl⟩, Sub.nil _⟩
 ·skip
  rintro _ w3 ⟨hI4, hA5, rfl⟩
  replace h := elimL h
  refine cw_seq (cw_regF ?_)
  refine s_as rfl rfl ?_
  refine Reg.nil ?_
  refine cw_ret ?_
  obtain rfl := Option.some.inj h
  refine fin1 Try.results66 rfl ?_
  exact ⟨rfl, (by decide), hI4.kp⟩
noncomputable def P.slices_ContainsFunc_54 (s : (List I87)) (f : I87 → Option Bool) : Option Bool :=
 Option.bind (P.slices_IndexFunc_66 s f) fun z1 => some (decide (0 ≤ z1))
theorem C_slices_ContainsFunc_54 {M : List Nat} {w : World} (hM : MLt M w) {s : (List I87)} {v_s_0 : Value} (f_s_0 : RdS I87E M w v_s_0 s) {v_f : Value} {f : I87 → Option Bool} (f_f : ∀ (x0 : I87) (vx0_0 : Value) (r : Bool) (w1 : World), Kp [] w w1 → I87E.R M w1 [vx0_0] x0 → f x0 = some r → CallsV Try.prog v_f [vx0_0] w1 fun e w2 => e = .returned (Value.bool r) ∧ Ext w1 w2) {r0 : Bool} (h : P.slices_ContainsFunc_54 s f = some r0) :
  Calls Try.prog 54 (List.toArray [v_s_0, v_f]) w fun e w' => e = .returned (Value.bool r0) ∧ Ext w w' := by
 have hI := Hp.start (Mu := []) hM
 refine calls_cw Try.func54 rfl Try.ntmps54 rfl ?_
 refine cw_seq (cw_regF ?_)
 refine s_as rfl rfl ?_
 refine Reg.nil ?_
 refine cw_seq (cw_regF ?_)
 refine s_mv rfl rfl ?_
 refine s_mv rfl rfl ?_
 obtain ⟨z1, hz2, h⟩ := bnd h
 refine s_call rfl Try.call66 rfl ?_
 refine (C_slices_IndexFunc_66 hI.mlt f_s_0 (fun a0 a1 r w9 e9 f0 hr => f_f a0 a1 r w9 (hI.kp.trans (Ext.kp e9)) f0 hr) hz2).mono ?_
 rintro _ w3 ⟨rfl, r5, e4⟩
 refine ⟨_, rfl, ?_⟩
 have hI6 := hI.ext e4
 refine s_geq rfl rfl rfl ?_
 refine s_as rfl rfl ?_
 refine Reg.nil ?_
 refine cw_ret ?_
 obtain rfl := Option.some.inj h
 refine fin1 Try.results54 rfl ?_
 exact ⟨rfl, hI6.kp⟩
noncomputable def P.M87_weight (x : I87)  : Option Int := match x with
 | .c105 y => P.score_card_weight y 
 | .c106 y => P.score_tree_weight y
theorem C_M87_weight {nm : String} (q105 : ∀ u w, (method (Try.prog.types.size + Made.depth) 105 u nm).run Try.prog w = .ok (128, u) w) (q106 : ∀ u w, (method (Try.prog.types.size + Made.depth) 106 u nm).run Try.prog w = .ok (138, u) w) {M : List Nat} {w : World} (hM : MLt M w) {v : Value} {x : I87} (hx : I87E.R M w [v] x)  {r : Int} (h : P.M87_weight x  = some r) :
  CallsI Try.prog v nm [] w fun e w' => e = .returned (Value.int .i64 r) ∧ InK .i64 r ∧ Ext w w' := by
 cases x with
 | c105 y =>
  obtain ⟨ds, he, hR⟩ := hx
  cases he
  obtain ⟨v2, rfl, g0, g1, g2⟩ := CardE_R.1 hR
  exact ⟨128, _, ⟨105, _, rfl, q105 _, Try.call128⟩, C_score_card_weight hM g0 g1 g2 h⟩
 | c106 y =>
  obtain ⟨ds, he, hR⟩ := hx
  cases he
  obtain ⟨v1, rfl, g0, g1⟩ := TreeE_R.1 hR
  exact ⟨138, _, ⟨106, _, rfl, q106 _, Try.call138⟩, C_score_tree_weight hM g0 g1 h⟩
noncomputable def P.M87_right (x : I87) (x0 : Int) : Option Bool := match x with
 | .c105 y => P.score_card_right y x0
 | .c106 y => P.score_tree_right y x0
theorem C_M87_right {nm : String} (q105 : ∀ u w, (method (Try.prog.types.size + Made.depth) 105 u nm).run Try.prog w = .ok (127, u) w) (q106 : ∀ u w, (method (Try.prog.types.size + Made.depth) 106 u nm).run Try.prog w = .ok (137, u) w) {M : List Nat} {w : World} (hM : MLt M w) {v : Value} {x : I87} (hx : I87E.R M w [v] x) {x0 : Int} (f_x0_0 : InK .i64 x0) {r : Bool} (h : P.M87_right x x0 = some r) :
  CallsI Try.prog v nm [Value.int .i64 x0] w fun e w' => e = .returned (Value.bool r) ∧ Ext w w' := by
 cases x with
 | c105 y =>
  obtain ⟨ds, he, hR⟩ := hx
  cases he
  obtain ⟨v2, rfl, g0, g1, g2⟩ := CardE_R.1 hR
  exact ⟨127, _, ⟨105, _, rfl, q105 _, Try.call127⟩, C_score_card_right hM g0 g1 g2 f_x0_0 h⟩
 | c106 y =>
  obtain ⟨ds, he, hR⟩ := hx
  cases he
  obtain ⟨v1, rfl, g0, g1⟩ := TreeE_R.1 hR
  exact ⟨137, _, ⟨106, _, rfl, q106 _, Try.call137⟩, C_score_tree_right hM g0 g1 f_x0_0 h⟩
noncomputable def P.score_open_in1 (p : I87) (m_c : Model) : Option Bool :=
 Option.bind (Option.bind (P.M87_weight p) fun z1 => Option.bind (P.score_within 0 1000 ([z1] : List Int)) fun z10 => cond (!z10) (some true) (Option.bind (P.M87_right p m_c.traits) fun z16 => some (!z16))) fun x21 => some x21
theorem C_score_open_in1 {M : List Nat} {w : World} (hM : MLt M w) {p : I87} {v_p_0 : Value} (f_p_0 : I87E.R M w [v_p_0] p) {m_c : Model} {v_m_c_1 : Value} {v_m_c_2 : Value} (f_m_c_0 : InK .i64 m_c.traits) (f_m_c_1 : RdS CardE M w v_m_c_1 m_c.cards) (f_m_c_2 : RdS TreeE M w v_m_c_2 m_c.trees) (f_m_c_3 : InK .i64 m_c.need) {b_m_c : Nat} (c_m_c : RdC M w b_m_c 0 [Value.int .i64 m_c.traits, v_m_c_1, v_m_c_2, Value.int .i64 m_c.need]) {r0 : Bool} (h : P.score_open_in1 p m_c = some r0) :
  Calls Try.prog 52 (List.toArray [v_p_0, Value.pointer (some ⟨b_m_c, 0, none⟩)]) w fun e w' => e = .returned (Value.bool r0) ∧ Ext w w' := by
 have hI := Hp.start (Mu := []) hM
 refine calls_cw Try.func52 rfl Try.ntmps52 rfl ?_
 refine cw_seq (cw_regF ?_)
 refine s_as rfl rfl ?_
 refine Reg.nil ?_
 obtain ⟨j1, h2, h⟩ := bnd h
 refine cw_sub (L := [(0, _), (1, _)]) (Sub.cons rfl (Sub.cons rfl (Sub.nil _))) ?_
 refine cw_seqD 2 (ι := Bool) (fun x3 => [(3, Value.bool x3)]) (fun x3 => fun w4 => Hp w [] M [] w4 ∧ Adv (mm [] M) (mm [] M) w w4 ∧ x3 = j1) ?_ ?_
 ·skip
  refine cw_regF ?_
  refine s_mv rfl rfl ?_
  obtain ⟨z7, hz7, h2⟩ := bnd h2
  refine s_invD rfl rfl rfl ?_
  refine (C_M87_weight (fun _ _ => by kernel_rfl) (fun _ _ => by kernel_rfl) hI.mlt f_p_0 hz7).mono ?_
  rintro _ w8 ⟨rfl, r10, e9⟩
  refine ⟨_, rfl, ?_⟩
  have hI11 := hI.ext e9
  refine y_bs (E := (intE .i64)) (xs := [z7]) sl26 hI11 rfl rfl (Cls.cons rfl Cls.nil) (Chs.cons ⟨rfl, r10⟩ Chs.nil) rfl rfl ?_
  intro v12 w13 hI14 x15
  obtain ⟨z16, hz17, h2⟩ := bnd h2
  refine s_call rfl Try.call43 rfl ?_
  refine (C_score_within (hI14.sel [] rfl).mlt (by decide) (by decide) (hI14.lendRd [] 0 rfl rfl) hz17).mono ?_
  rintro _ w18 ⟨rfl, e19⟩
  refine ⟨_, rfl, ?_⟩
  have hI20 := hI14.ext e19
  refine s_not rfl rfl ?_
  refine s_mv rfl rfl ?_
  refine Reg.gsplit (t := 9) rfl (fun hg21 => ?_) (fun hg21 => ?_)
  ·replace h2 := cdT hg21 h2
   refine Reg.pass rfl rfl rfl rfl ?_
   refine Reg.pass rfl rfl rfl rfl ?_
   refine Reg.pass rfl rfl rfl rfl ?_
   refine Reg.pass rfl rfl rfl rfl ?_
   refine Reg.pass rfl rfl rfl rfl ?_
   refine s_pkT rfl rfl rfl ?_
   refine s_as rfl rfl ?_
   refine Reg.nil ?_
   obtain rfl := Option.some.inj h2
   refine ⟨rfl, true, ⟨(hI20.sel [] rfl), (hI20.adv.trans (Hp.selA (σ := [ownR [] (intE .i64) 3 v12 ([z7] : List Int)]) [])), rfl⟩, Sub.cons rfl (Sub.nil _)⟩
  ·replace h2 := cdF hg21 h2
   refine Reg.take rfl rfl ?_
   refine s_mv rfl rfl ?_
   refine Reg.take rfl rfl ?_
   refine s_fa rfl Try.underlying25 rfl Try.sizeOf3 rfl ?_
   refine Reg.take rfl rfl ?_
   refine s_ld rfl ((c_m_c.adv hI20.adv).cells.at 0 rfl) Try.isAgg3 rfl ?_
   refine Reg.take rfl rfl ?_
   obtain ⟨z22, hz22, h2⟩ := bnd h2
   refine s_invD rfl rfl rfl ?_
   refine (C_M87_right (fun _ _ => by kernel_rfl) (fun _ _ => by kernel_rfl) hI20.mlt (I87E.adv f_p_0 hI20.adv) f_m_c_0 hz22).mono ?_
   rintro _ w23 ⟨rfl, e24⟩
   refine ⟨_, rfl, ?_⟩
   have hI26 := hI20.ext e24
   refine Reg.take rfl rfl ?_
   refine s_not rfl rfl ?_
   refine s_pkF rfl rfl rfl ?_
   refine s_as rfl rfl ?_
   refine Reg.nil ?_
   obtain rfl := Option.some.inj h2
   refine ⟨rfl, !z22, ⟨(hI26.sel [] rfl), (hI26.adv.trans (Hp.selA (σ := [ownR [] (intE .i64) 3 v12 ([z7] : List Int)]) [])), rfl⟩, Sub.cons rfl (Sub.nil _)⟩
 ·skip
  rintro x3 w4 ⟨hI5, hA6, rfl⟩
  refine cw_ret ?_
  obtain rfl := Option.some.inj h
  refine fin1 Try.results52 rfl ?_
  exact ⟨rfl, hI5.kp⟩
noncomputable def P.score_open (m : Model) : Option (Works × Int) :=
 Option.bind (loopM (S := Int × (List I87)) (R := ((List I87))) (fun (x18, x19) => cond (decide (x18 < (m.cards.length : Int))) (Option.bind (ixo m.cards x18) fun y21 => Option.bind (appo 16 x19 ([(I87.c105 (Card.mk y21.weight y21.base y21.scales))] : List I87)) fun l46 => Option.bind (chk .i64 (x18 + 1)) fun n54 => some (.inl (n54, l46))) (some (.inr x19))) (0, [])) fun x55 => Option.bind (loopM (S := Int × (List I87)) (R := ((List I87))) (fun (x56, x57) => cond (decide (x56 < (m.trees.length : Int))) (Option.bind (ixo m.trees x56) fun y59 => Option.bind (appo 16 x57 ([(I87.c106 (Tree.mk y59.weight y59.nodes))] : List I87)) fun l83 => Option.bind (chk .i64 (x56 + 1)) fun n91 => some (.inl (n91, l83))) (some (.inr x57))) (0, x55)) fun x92 => Option.bind (Option.bind (P.score_within 1 5 ([m.traits] : List Int)) fun z97 => cond (!z97) (some true) (Option.bind (P.score_counts ([m.need] : List Int)) fun z107 => cond (!z107) (some true) (cond (decide (2 < (m.cards.length : Int))) (some true) (cond (decide (2 < (m.trees.length : Int))) (some true) (Option.bind (P.slices_ContainsFunc_54 x92 (fun x0_ => P.score_open_in1 x0_ (Model.mk m.traits m.cards m.trees m.need))) fun z115 => some z115))))) fun x120 => cond x120 (some ((Works.mk (Model.mk 0 [] [] 0) []), 60)) (some ((Works.mk (Model.mk m.traits m.cards m.trees m.need) x92), 0))
theorem C_score_open {M : List Nat} {w : World} (hM : MLt M w) {m : Model} {v_m_1 : Value} {v_m_2 : Value} (f_m_0 : InK .i64 m.traits) (f_m_1 : RdS CardE M w v_m_1 m.cards) (f_m_2 : RdS TreeE M w v_m_2 m.trees) (f_m_3 : InK .i64 m.need) {r0 : Works} {r1 : Int} (h : P.score_open m = some (r0, r1)) :
  Calls Try.prog 37 (List.toArray [Value.agg (List.toArray [Value.int .i64 m.traits, v_m_1, v_m_2, Value.int .i64 m.need])]) w fun e w' => ∃ v0_1 : Value, ∃ v0_2 : Value, ∃ v0_4 : Value, e = .returned (Value.tuple (List.toArray [Value.agg (List.toArray [Value.int .i64 r0.model.traits, v0_1, v0_2, Value.int .i64 r0.model.need, v0_4]), Value.int .i64 r1])) ∧ InK .i64 r0.model.traits ∧ RdS CardE M w' v0_1 r0.model.cards ∧ RdS TreeE M w' v0_2 r0.model.trees ∧ InK .i64 r0.model.need ∧ RdS I87E M w' v0_4 r0.parts ∧ InK .i64 r1 ∧ Ext w w' := by
 have hI := Hp.start (Mu := []) hM
 refine calls_cw Try.func37 rfl Try.ntmps37 rfl ?_
 refine cw_seq (cw_regF ?_)
 refine y_box hI rfl rfl rfl ?_
 intro b1 w2 hI3 x4
 have hC6 := hI3.freezeRow 0 rfl
 have hI5 := hI3.erase 0
 refine y_al hI5 Try.zeroValue80 rfl rfl ?_
 intro b7 w8 hI9 x10
 refine s_as rfl rfl ?_
 refine Reg.nil ?_
 refine cw_seq (cw_regF ?_)
 refine s_lda rfl (hC6.adv x10).cells Try.isAgg25 rfl Try.sizeOf25 rfl ?_
 refine s_bd [(0, 4), (4, 1)] Try.zeroValue80 rfl Try.underlying80 (fun _ => by simp [Try.sizeOf25, Try.sizeOf78]) rfl (Cls.cons rfl (Cls.nil)) rfl rfl ?_
 refine y_al hI9 Try.zeroValue80 rfl rfl ?_
 intro b11 w12 hI13 x14
 refine y_st 0 hI13 rfl rfl rfl rfl Try.sizeOf80 rfl rfl (one1 rfl (one1 (RdS.oneC f_m_1) (one1 (RdS.oneC f_m_2) (one1 rfl (one1 rfl one0))))) ?_
 intro w15 hI16 x17
 refine Reg.nil ?_
 refine cw_seq (cw_seq (cw_regF ?_))
 refine s_fa rfl Try.underlying25 rfl Try.sizeOf22 rfl ?_
 refine s_ld rfl ((hC6.adv (x10.trans (x14.trans x17))).cells.at 1 rfl) Try.isAgg22 rfl ?_
 refine s_len rfl (f_m_1.adv hI16.adv) Try.underlying22 rfl ?_
 refine s_mv rfl rfl ?_
 refine Reg.nil ?_
 obtain ⟨j18, h19, h⟩ := bnd h
 refine cw_sub (L := [(13, _), (14, _), (15, _), (1, _), (2, _), (4, _)]) (Sub.cons rfl (Sub.cons rfl (Sub.cons rfl (Sub.cons rfl (Sub.cons rfl (Sub.cons rfl (Sub.nil _))))))) ?_
 refine cw_unitD 3 (ι := (List I87) × Value) (fun ⟨x20, v21⟩ => []) (fun ⟨x20, v21⟩ => fun w22 => Hp w [] M [ownR [] I87E 87 v21 x20, rowR 80 b11 [Value.int .i64 m.traits, v_m_1, v_m_2, Value.int .i64 m.need, v21], rowR 80 b7 [Value.int .i64 0, Value.slice none 0 0, Value.slice none 0 0, Value.int .i64 0, Value.slice none 0 0]] w22 ∧ Adv (mm [rowR 80 b11 [Value.int .i64 m.traits, v_m_1, v_m_2, Value.int .i64 m.need, Value.slice none 0 0], rowR 80 b7 [Value.int .i64 0, Value.slice none 0 0, Value.slice none 0 0, Value.int .i64 0, Value.slice none 0 0]] M) (mm [ownR [] I87E 87 v21 x20, rowR 80 b11 [Value.int .i64 m.traits, v_m_1, v_m_2, Value.int .i64 m.need, v21], rowR 80 b7 [Value.int .i64 0, Value.slice none 0 0, Value.slice none 0 0, Value.int .i64 0, Value.slice none 0 0]] M) w15 w22 ∧ x20 = j18) ?_ ?_
 ·skip
  refine cw_block ?_
  refine cw_sub (L := [(15, _), (1, _), (2, _), (4, _), (13, _), (14, _)]) (Sub.cons rfl (Sub.cons rfl (Sub.cons rfl (Sub.cons rfl (Sub.cons rfl (Sub.cons rfl (Sub.nil _))))))) ?_
  have hI32 := hI16.addNil I87E 87
  refine cw_loopM 1 (ι := Int × (List I87) × Value) _ (fun ⟨x25, x27, v28⟩ => [(15, Value.int .i64 x25)]) (fun ⟨x25, x27, v28⟩ => (x25, x27)) (fun ⟨x25, x27, v28⟩ => fun w29 => Hp w [] M [ownR [] I87E 87 v28 x27, rowR 80 b11 [Value.int .i64 m.traits, v_m_1, v_m_2, Value.int .i64 m.need, v28], rowR 80 b7 [Value.int .i64 0, Value.slice none 0 0, Value.slice none 0 0, Value.int .i64 0, Value.slice none 0 0]] w29 ∧ Adv (mm [rowR 80 b11 [Value.int .i64 m.traits, v_m_1, v_m_2, Value.int .i64 m.need, Value.slice none 0 0], rowR 80 b7 [Value.int .i64 0, Value.slice none 0 0, Value.slice none 0 0, Value.int .i64 0, Value.slice none 0 0]] M) (mm [ownR [] I87E 87 v28 x27, rowR 80 b11 [Value.int .i64 m.traits, v_m_1, v_m_2, Value.int .i64 m.need, v28], rowR 80 b7 [Value.int .i64 0, Value.slice none 0 0, Value.slice none 0 0, Value.int .i64 0, Value.slice none 0 0]] M) w15 w29 ∧ InK .i64 x25) (0, ([] : List I87), (Value.slice none 0 0)) h19 ⟨hI32, (Hp.addNilA (σ := [rowR 80 b11 [Value.int .i64 m.traits, v_m_1, v_m_2, Value.int .i64 m.need, Value.slice none 0 0], rowR 80 b7 [Value.int .i64 0, Value.slice none 0 0, Value.slice none 0 0, Value.int .i64 0, Value.slice none 0 0]]) I87E 87), (by decide)⟩ (Sub.cons rfl (Sub.cons rfl (Sub.cons rfl (Sub.cons rfl (Sub.cons rfl (Sub.cons rfl (Sub.nil _))))))) ?_
  rintro ⟨x25, x27, v28⟩ w29 ⟨hI30, hA31, r26⟩ y33 h34 hR35
  refine cw_seq (cw_regF ?_)
  refine s_lss rfl rfl rfl ?_
  refine Reg.nil ?_
  refine cw_seq ?_
  refine cw_cond rfl (fun hc36 => ?_) (fun hc36 => ?_)
  ·replace h34 := cdT hc36 h34
   refine cw_skip ?_
   refine cw_seq ?_
   refine cw_block ?_
   refine cw_seq (cw_regF ?_)
   obtain ⟨y37, hy37, h34⟩ := bnd h34
   refine p_ia rfl rfl (f_m_1.adv hI30.adv) hy37 Try.underlying22 Try.sizeOf54 rfl ?_
   intro b38 o39 cs40 hR41 hC42
   obtain ⟨v45, rfl, r43, r44, hf46⟩ := CardE_R.1 hR41
   refine s_lda rfl hC42.cells Try.isAgg54 rfl Try.sizeOf54 rfl ?_
   refine y_al hI30 Try.zeroValue54 rfl rfl ?_
   intro b47 w48 hI49 x50
   refine y_st 0 hI49 rfl rfl rfl rfl Try.sizeOf54 rfl rfl (one1 rfl (one1 rfl (one1 (RdS.oneC hf46) one0))) ?_
   intro w51 hI52 x53
   have hC55 := hI52.freezeRow 0 rfl
   have hI54 := hI52.erase 0
   refine Reg.nil ?_
   refine cw_regF ?_
   refine s_fa rfl Try.underlying80 rfl Try.sizeOf78 rfl ?_
   refine s_ld rfl ((hI54.row 1 rfl).rd.cells.at 4 rfl) Try.isAgg78 rfl ?_
   refine s_lda rfl hC55.cells Try.isAgg54 rfl Try.sizeOf54 rfl ?_
   refine s_mi (du := .bool) rfl (by kernel_rfl) rfl ?_
   refine y_bs (E := I87E) (xs := [(I87.c105 (Card.mk y37.weight y37.base y37.scales))]) sl78 hI54 rfl rfl (Cls.cons rfl Cls.nil) (Chs.cons (I87E_c105 ((CardE_R (x := (Card.mk y37.weight y37.base y37.scales))).2 ⟨_, rfl, r43, r44, (hf46.adv (x50.trans (x53.trans (Hp.eraseA (σ := [rowR 54 b47 [Value.int .i64 y37.weight, Value.int .i64 y37.base, v45], ownR [] I87E 87 v28 x27, rowR 80 b11 [Value.int .i64 m.traits, v_m_1, v_m_2, Value.int .i64 m.need, v28], rowR 80 b7 [Value.int .i64 0, Value.slice none 0 0, Value.slice none 0 0, Value.int .i64 0, Value.slice none 0 0]]) 0))))⟩)) Chs.nil) rfl rfl ?_
   intro v56 w57 hI58 x59
   have hf60 := hI58.freeze 0 rfl
   have hI61 := hI58.erase 0
   obtain ⟨l62, hl62, h34⟩ := bnd h34
   obtain ⟨hbl62, el62⟩ := appo_out hl62
   refine y_app 0 sl78 hI61 rfl rfl rfl hf60 hbl62 rfl ?_
   rw [← el62]
   intro v63 w64 hI65 x66
   refine s_fa rfl Try.underlying80 rfl Try.sizeOf78 rfl ?_
   refine y_st 1 hI65 rfl rfl rfl (Own.cells1 (hI65.ownAt 0 rfl)) Try.sizeOf78 rfl rfl (one1 (Own.oneC (hI65.ownAt 0 rfl)) one0) ?_
   intro w67 hI68 x69
   refine Reg.nil ?_
   refine cw_regF ?_
   obtain ⟨n70, hn70, h34⟩ := bnd h34
   replace hn70 := chk_out hn70
   refine p_add rfl rfl rfl hn70 ?_
   refine s_mv rfl rfl ?_
   refine Reg.nil ?_
   obtain rfl := Option.some.inj h34
   refine ⟨rfl, (n70, l62, v63), ⟨⟨hI68, (hA31.trans (x50.trans (x53.trans ((Hp.eraseA (σ := [rowR 54 b47 [Value.int .i64 y37.weight, Value.int .i64 y37.base, v45], ownR [] I87E 87 v28 x27, rowR 80 b11 [Value.int .i64 m.traits, v_m_1, v_m_2, Value.int .i64 m.need, v28], rowR 80 b7 [Value.int .i64 0, Value.slice none 0 0, Value.slice none 0 0, Value.int .i64 0, Value.slice none 0 0]]) 0).trans (x59.trans ((Hp.eraseA (σ := [ownR [] I87E 87 v56 ([(I87.c105 (Card.mk y37.weight y37.base y37.scales))] : List I87), ownR [] I87E 87 v28 x27, rowR 80 b11 [Value.int .i64 m.traits, v_m_1, v_m_2, Value.int .i64 m.need, v28], rowR 80 b7 [Value.int .i64 0, Value.slice none 0 0, Value.slice none 0 0, Value.int .i64 0, Value.slice none 0 0]]) 0).trans (x66.trans x69))))))), hn70.2⟩, rfl⟩, Sub.cons rfl (Sub.cons rfl (Sub.cons rfl (Sub.cons rfl (Sub.cons rfl (Sub.cons rfl (Sub.nil _))))))⟩
  ·replace h34 := cdF hc36 h34
   refine cw_exit ?_
   refine exB_same ?_
   obtain rfl := Option.some.inj h34
   obtain rfl := hR35 _ rfl
   refine ⟨rfl, (x27, v28), ⟨hI30, hA31, rfl⟩, Sub.cons rfl (Sub.cons rfl (Sub.cons rfl (Sub.nil _)))⟩
 ·skip
  rintro ⟨x20, v21⟩ w22 ⟨hI23, hA24, rfl⟩
  refine cw_seq (cw_seq (cw_regF ?_))
  refine s_fa rfl Try.underlying25 rfl Try.sizeOf23 rfl ?_
  refine s_ld rfl ((hC6.adv (x10.trans (x14.trans (x17.trans hA24)))).cells.at 2 rfl) Try.isAgg23 rfl ?_
  refine s_len rfl (f_m_2.adv hI23.adv) Try.underlying23 rfl ?_
  refine s_mv rfl rfl ?_
  refine Reg.nil ?_
  obtain ⟨j71, h72, h⟩ := bnd h
  refine cw_sub (L := [(28, _), (29, _), (30, _), (1, _), (2, _), (4, _)]) (Sub.cons rfl (Sub.cons rfl (Sub.cons rfl (Sub.cons rfl (Sub.cons rfl (Sub.cons rfl (Sub.nil _))))))) ?_
  refine cw_unitD 3 (ι := (List I87) × Value) (fun ⟨x73, v74⟩ => []) (fun ⟨x73, v74⟩ => fun w75 => Hp w [] M [ownR [] I87E 87 v74 x73, rowR 80 b11 [Value.int .i64 m.traits, v_m_1, v_m_2, Value.int .i64 m.need, v74], rowR 80 b7 [Value.int .i64 0, Value.slice none 0 0, Value.slice none 0 0, Value.int .i64 0, Value.slice none 0 0]] w75 ∧ Adv (mm [ownR [] I87E 87 v21 x20, rowR 80 b11 [Value.int .i64 m.traits, v_m_1, v_m_2, Value.int .i64 m.need, v21], rowR 80 b7 [Value.int .i64 0, Value.slice none 0 0, Value.slice none 0 0, Value.int .i64 0, Value.slice none 0 0]] M) (mm [ownR [] I87E 87 v74 x73, rowR 80 b11 [Value.int .i64 m.traits, v_m_1, v_m_2, Value.int .i64 m.need, v74], rowR 80 b7 [Value.int .i64 0, Value.slice none 0 0, Value.slice none 0 0, Value.int .i64 0, Value.slice none 0 0]] M) w22 w75 ∧ x73 = j71) ?_ ?_
  ·skip
   refine cw_block ?_
   refine cw_sub (L := [(30, _), (1, _), (2, _), (4, _), (28, _), (29, _)]) (Sub.cons rfl (Sub.cons rfl (Sub.cons rfl (Sub.cons rfl (Sub.cons rfl (Sub.cons rfl (Sub.nil _))))))) ?_
   refine cw_loopM 1 (ι := Int × (List I87) × Value) _ (fun ⟨x78, x80, v81⟩ => [(30, Value.int .i64 x78)]) (fun ⟨x78, x80, v81⟩ => (x78, x80)) (fun ⟨x78, x80, v81⟩ => fun w82 => Hp w [] M [ownR [] I87E 87 v81 x80, rowR 80 b11 [Value.int .i64 m.traits, v_m_1, v_m_2, Value.int .i64 m.need, v81], rowR 80 b7 [Value.int .i64 0, Value.slice none 0 0, Value.slice none 0 0, Value.int .i64 0, Value.slice none 0 0]] w82 ∧ Adv (mm [ownR [] I87E 87 v21 x20, rowR 80 b11 [Value.int .i64 m.traits, v_m_1, v_m_2, Value.int .i64 m.need, v21], rowR 80 b7 [Value.int .i64 0, Value.slice none 0 0, Value.slice none 0 0, Value.int .i64 0, Value.slice none 0 0]] M) (mm [ownR [] I87E 87 v81 x80, rowR 80 b11 [Value.int .i64 m.traits, v_m_1, v_m_2, Value.int .i64 m.need, v81], rowR 80 b7 [Value.int .i64 0, Value.slice none 0 0, Value.slice none 0 0, Value.int .i64 0, Value.slice none 0 0]] M) w22 w82 ∧ InK .i64 x78) (0, x20, v21) h72 ⟨hI23, (Adv.refl _ _), (by decide)⟩ (Sub.cons rfl (Sub.cons rfl (Sub.cons rfl (Sub.cons rfl (Sub.cons rfl (Sub.cons rfl (Sub.nil _))))))) ?_
   rintro ⟨x78, x80, v81⟩ w82 ⟨hI83, hA84, r79⟩ y85 h86 hR87
   refine cw_seq (cw_regF ?_)
   refine s_lss rfl rfl rfl ?_
   refine Reg.nil ?_
   refine cw_seq ?_
   refine cw_cond rfl (fun hc88 => ?_) (fun hc88 => ?_)
   ·replace h86 := cdT hc88 h86
    refine cw_skip ?_
    refine cw_seq ?_
    refine cw_block ?_
    refine cw_seq (cw_regF ?_)
    obtain ⟨y89, hy89, h86⟩ := bnd h86
    refine p_ia rfl rfl (f_m_2.adv hI83.adv) hy89 Try.underlying23 Try.sizeOf59 rfl ?_
    intro b90 o91 cs92 hR93 hC94
    obtain ⟨v96, rfl, r95, hf97⟩ := TreeE_R.1 hR93
    refine s_lda rfl hC94.cells Try.isAgg59 rfl Try.sizeOf59 rfl ?_
    refine y_al hI83 Try.zeroValue59 rfl rfl ?_
    intro b98 w99 hI100 x101
    refine y_st 0 hI100 rfl rfl rfl rfl Try.sizeOf59 rfl rfl (one1 rfl (one1 (RdS.oneC hf97) one0)) ?_
    intro w102 hI103 x104
    have hC106 := hI103.freezeRow 0 rfl
    have hI105 := hI103.erase 0
    refine Reg.nil ?_
    refine cw_regF ?_
    refine s_fa rfl Try.underlying80 rfl Try.sizeOf78 rfl ?_
    refine s_ld rfl ((hI105.row 1 rfl).rd.cells.at 4 rfl) Try.isAgg78 rfl ?_
    refine s_lda rfl hC106.cells Try.isAgg59 rfl Try.sizeOf59 rfl ?_
    refine s_mi (du := .bool) rfl (by kernel_rfl) rfl ?_
    refine y_bs (E := I87E) (xs := [(I87.c106 (Tree.mk y89.weight y89.nodes))]) sl78 hI105 rfl rfl (Cls.cons rfl Cls.nil) (Chs.cons (I87E_c106 ((TreeE_R (x := (Tree.mk y89.weight y89.nodes))).2 ⟨_, rfl, r95, (hf97.adv (x101.trans (x104.trans (Hp.eraseA (σ := [rowR 59 b98 [Value.int .i64 y89.weight, v96], ownR [] I87E 87 v81 x80, rowR 80 b11 [Value.int .i64 m.traits, v_m_1, v_m_2, Value.int .i64 m.need, v81], rowR 80 b7 [Value.int .i64 0, Value.slice none 0 0, Value.slice none 0 0, Value.int .i64 0, Value.slice none 0 0]]) 0))))⟩)) Chs.nil) rfl rfl ?_
    intro v107 w108 hI109 x110
    have hf111 := hI109.freeze 0 rfl
    have hI112 := hI109.erase 0
    obtain ⟨l113, hl113, h86⟩ := bnd h86
    obtain ⟨hbl113, el113⟩ := appo_out hl113
    refine y_app 0 sl78 hI112 rfl rfl rfl hf111 hbl113 rfl ?_
    rw [← el113]
    intro v114 w115 hI116 x117
    refine s_fa rfl Try.underlying80 rfl Try.sizeOf78 rfl ?_
    refine y_st 1 hI116 rfl rfl rfl (Own.cells1 (hI116.ownAt 0 rfl)) Try.sizeOf78 rfl rfl (one1 (Own.oneC (hI116.ownAt 0 rfl)) one0) ?_
    intro w118 hI119 x120
    refine Reg.nil ?_
    refine cw_regF ?_
    obtain ⟨n121, hn121, h86⟩ := bnd h86
    replace hn121 := chk_out hn121
    refine p_add rfl rfl rfl hn121 ?_
    refine s_mv rfl rfl ?_
    refine Reg.nil ?_
    obtain rfl := Option.some.inj h86
    refine ⟨rfl, (n121, l113, v114), ⟨⟨hI119, (hA84.trans (x101.trans (x104.trans ((Hp.eraseA (σ := [rowR 59 b98 [Value.int .i64 y89.weight, v96], ownR [] I87E 87 v81 x80, rowR 80 b11 [Value.int .i64 m.traits, v_m_1, v_m_2, Value.int .i64 m.need, v81], rowR 80 b7 [Value.int .i64 0, Value.slice none 0 0, Value.slice none 0 0, Value.int .i64 0, Value.slice none 0 0]]) 0).trans (x110.trans ((Hp.eraseA (σ := [ownR [] I87E 87 v107 ([(I87.c106 (Tree.mk y89.weight y89.nodes))] : List I87), ownR [] I87E 87 v81 x80, rowR 80 b11 [Value.int .i64 m.traits, v_m_1, v_m_2, Value.int .i64 m.need, v81], rowR 80 b7 [Value.int .i64 0, Value.slice none 0 0, Value.slice none 0 0, Value.int .i64 0, Value.slice none 0 0]]) 0).trans (x117.trans x120))))))), hn121.2⟩, rfl⟩, Sub.cons rfl (Sub.cons rfl (Sub.cons rfl (Sub.cons rfl (Sub.cons rfl (Sub.cons rfl (Sub.nil _))))))⟩
   ·replace h86 := cdF hc88 h86
    refine cw_exit ?_
    refine exB_same ?_
    obtain rfl := Option.some.inj h86
    obtain rfl := hR87 _ rfl
    refine ⟨rfl, (x80, v81), ⟨hI83, hA84, rfl⟩, Sub.cons rfl (Sub.cons rfl (Sub.cons rfl (Sub.nil _)))⟩
  ·skip
   rintro ⟨x73, v74⟩ w75 ⟨hI76, hA77, rfl⟩
   refine cw_seq (cw_regF ?_)
   refine s_mf rfl rfl ?_
   refine s_as rfl rfl ?_
   refine Reg.nil ?_
   refine cw_seq ?_
   obtain ⟨j122, h123, h⟩ := bnd h
   refine cw_sub (L := [(1, _), (9, _), (2, _), (4, _)]) (Sub.cons rfl (Sub.cons rfl (Sub.cons rfl (Sub.cons rfl (Sub.nil _))))) ?_
   refine cw_seqD 2 (ι := Bool) (fun x124 => [(72, Value.bool x124)]) (fun x124 => fun w125 => Hp w [] M [ownR [] I87E 87 v74 x73, rowR 80 b11 [Value.int .i64 m.traits, v_m_1, v_m_2, Value.int .i64 m.need, v74], rowR 80 b7 [Value.int .i64 0, Value.slice none 0 0, Value.slice none 0 0, Value.int .i64 0, Value.slice none 0 0]] w125 ∧ Adv (mm [ownR [] I87E 87 v74 x73, rowR 80 b11 [Value.int .i64 m.traits, v_m_1, v_m_2, Value.int .i64 m.need, v74], rowR 80 b7 [Value.int .i64 0, Value.slice none 0 0, Value.slice none 0 0, Value.int .i64 0, Value.slice none 0 0]] M) (mm [ownR [] I87E 87 v74 x73, rowR 80 b11 [Value.int .i64 m.traits, v_m_1, v_m_2, Value.int .i64 m.need, v74], rowR 80 b7 [Value.int .i64 0, Value.slice none 0 0, Value.slice none 0 0, Value.int .i64 0, Value.slice none 0 0]] M) w75 w125 ∧ x124 = j122) ?_ ?_
   ·skip
    refine cw_regF ?_
    refine s_fa rfl Try.underlying25 rfl Try.sizeOf3 rfl ?_
    refine s_ld rfl ((hC6.adv (x10.trans (x14.trans (x17.trans (hA24.trans hA77))))).cells.at 0 rfl) Try.isAgg3 rfl ?_
    refine y_bs (E := (intE .i64)) (xs := [m.traits]) sl26 hI76 rfl rfl (Cls.cons rfl Cls.nil) (Chs.cons ⟨rfl, f_m_0⟩ Chs.nil) rfl rfl ?_
    intro v128 w129 hI130 x131
    obtain ⟨z132, hz133, h123⟩ := bnd h123
    refine s_call rfl Try.call43 rfl ?_
    refine (C_score_within (hI130.sel [1, 2, 3] rfl).mlt (by decide) (by decide) (hI130.lendRd [1, 2, 3] 0 rfl rfl) hz133).mono ?_
    rintro _ w134 ⟨rfl, e135⟩
    refine ⟨_, rfl, ?_⟩
    have hI136 := hI130.ext e135
    refine s_not rfl rfl ?_
    refine s_mv rfl rfl ?_
    refine Reg.gsplit (t := 48) rfl (fun hg137 => ?_) (fun hg137 => ?_)
    ·replace h123 := cdT hg137 h123
     refine Reg.pass rfl rfl rfl rfl ?_
     refine Reg.pass rfl rfl rfl rfl ?_
     refine Reg.pass rfl rfl rfl rfl ?_
     refine Reg.pass rfl rfl rfl rfl ?_
     refine Reg.pass rfl rfl rfl rfl ?_
     refine s_pkT rfl rfl rfl ?_
     refine s_mv rfl rfl ?_
     refine Reg.pass rfl rfl rfl rfl ?_
     refine Reg.pass rfl rfl rfl rfl ?_
     refine Reg.pass rfl rfl rfl rfl ?_
     refine Reg.pass rfl rfl rfl rfl ?_
     refine s_pkT rfl rfl rfl ?_
     refine s_mv rfl rfl ?_
     refine Reg.pass rfl rfl rfl rfl ?_
     refine Reg.pass rfl rfl rfl rfl ?_
     refine Reg.pass rfl rfl rfl rfl ?_
     refine Reg.pass rfl rfl rfl rfl ?_
     refine s_pkT rfl rfl rfl ?_
     refine s_mv rfl rfl ?_
     refine Reg.pass rfl rfl rfl rfl ?_
     refine Reg.pass rfl rfl rfl rfl ?_
     refine Reg.pass rfl rfl rfl rfl ?_
     refine Reg.pass rfl rfl rfl rfl ?_
     refine s_pkT rfl rfl rfl ?_
     refine Reg.nil ?_
     obtain rfl := Option.some.inj h123
     refine ⟨rfl, true, ⟨(hI136.sel [1, 2, 3] rfl), ((x131.trans (Adv.of_ext e135)).trans (Hp.selA (σ := [ownR [] (intE .i64) 3 v128 ([m.traits] : List Int), ownR [] I87E 87 v74 x73, rowR 80 b11 [Value.int .i64 m.traits, v_m_1, v_m_2, Value.int .i64 m.need, v74], rowR 80 b7 [Value.int .i64 0, Value.slice none 0 0, Value.slice none 0 0, Value.int .i64 0, Value.slice none 0 0]]) [1, 2, 3])), rfl⟩, Sub.cons rfl (Sub.cons rfl (Sub.cons rfl (Sub.nil _)))⟩
    ·replace h123 := cdF hg137 h123
     refine Reg.take rfl rfl ?_
     refine s_fa rfl Try.underlying25 rfl Try.sizeOf3 rfl ?_
     refine Reg.take rfl rfl ?_
     refine s_ld rfl ((hC6.adv (x10.trans (x14.trans (x17.trans (hA24.trans (hA77.trans (x131.trans (Adv.of_ext e135)))))))).cells.at 3 rfl) Try.isAgg3 rfl ?_
     refine Reg.take rfl rfl ?_
     refine y_bs (E := (intE .i64)) (xs := [m.need]) sl26 hI136 rfl rfl (Cls.cons rfl Cls.nil) (Chs.cons ⟨rfl, f_m_3⟩ Chs.nil) rfl rfl ?_
     intro v138 w139 hI140 x141
     refine Reg.take rfl rfl ?_
     obtain ⟨z142, hz143, h123⟩ := bnd h123
     refine s_call rfl Try.call53 rfl ?_
     refine (C_score_counts (hI140.sel [1, 2, 3, 4] rfl).mlt (hI140.lendRd [1, 2, 3, 4] 0 rfl rfl) hz143).mono ?_
     rintro _ w144 ⟨rfl, e145⟩
     refine ⟨_, rfl, ?_⟩
     have hI146 := hI140.ext e145
     refine Reg.take rfl rfl ?_
     refine s_not rfl rfl ?_
     refine s_pkF rfl rfl rfl ?_
     refine s_mv rfl rfl ?_
     refine Reg.gsplit (t := 55) rfl (fun hg147 => ?_) (fun hg147 => ?_)
     ·replace h123 := cdT hg147 h123
      refine Reg.pass rfl rfl rfl rfl ?_
      refine Reg.pass rfl rfl rfl rfl ?_
      refine Reg.pass rfl rfl rfl rfl ?_
      refine Reg.pass rfl rfl rfl rfl ?_
      refine s_pkT rfl rfl rfl ?_
      refine s_mv rfl rfl ?_
      refine Reg.pass rfl rfl rfl rfl ?_
      refine Reg.pass rfl rfl rfl rfl ?_
      refine Reg.pass rfl rfl rfl rfl ?_
      refine Reg.pass rfl rfl rfl rfl ?_
      refine s_pkT rfl rfl rfl ?_
      refine s_mv rfl rfl ?_
      refine Reg.pass rfl rfl rfl rfl ?_
      refine Reg.pass rfl rfl rfl rfl ?_
      refine Reg.pass rfl rfl rfl rfl ?_
      refine Reg.pass rfl rfl rfl rfl ?_
      refine s_pkT rfl rfl rfl ?_
      refine Reg.nil ?_
      obtain rfl := Option.some.inj h123
      refine ⟨rfl, true, ⟨(hI146.sel [2, 3, 4] rfl), ((x131.trans ((Adv.of_ext e135).trans (x141.trans (Adv.of_ext e145)))).trans (Hp.selA (σ := [ownR [] (intE .i64) 3 v138 ([m.need] : List Int), ownR [] (intE .i64) 3 v128 ([m.traits] : List Int), ownR [] I87E 87 v74 x73, rowR 80 b11 [Value.int .i64 m.traits, v_m_1, v_m_2, Value.int .i64 m.need, v74], rowR 80 b7 [Value.int .i64 0, Value.slice none 0 0, Value.slice none 0 0, Value.int .i64 0, Value.slice none 0 0]]) [2, 3, 4])), rfl⟩, Sub.cons rfl (Sub.cons rfl (Sub.cons rfl (Sub.nil _)))⟩
     ·replace h123 := cdF hg147 h123
      refine Reg.take rfl rfl ?_
      refine s_fa rfl Try.underlying25 rfl Try.sizeOf22 rfl ?_
      refine Reg.take rfl rfl ?_
      refine s_ld rfl ((hC6.adv (x10.trans (x14.trans (x17.trans (hA24.trans (hA77.trans (x131.trans ((Adv.of_ext e135).trans (x141.trans (Adv.of_ext e145)))))))))).cells.at 1 rfl) Try.isAgg22 rfl ?_
      refine Reg.take rfl rfl ?_
      refine s_len rfl (f_m_1.adv hI146.adv) Try.underlying22 rfl ?_
      refine Reg.take rfl rfl ?_
      refine s_gtr rfl rfl rfl ?_
      refine s_pkF rfl rfl rfl ?_
      refine s_mv rfl rfl ?_
      refine Reg.gsplit (t := 61) rfl (fun hg148 => ?_) (fun hg148 => ?_)
      ·replace h123 := cdT hg148 h123
       refine Reg.pass rfl rfl rfl rfl ?_
       refine Reg.pass rfl rfl rfl rfl ?_
       refine Reg.pass rfl rfl rfl rfl ?_
       refine Reg.pass rfl rfl rfl rfl ?_
       refine s_pkT rfl rfl rfl ?_
       refine s_mv rfl rfl ?_
       refine Reg.pass rfl rfl rfl rfl ?_
       refine Reg.pass rfl rfl rfl rfl ?_
       refine Reg.pass rfl rfl rfl rfl ?_
       refine Reg.pass rfl rfl rfl rfl ?_
       refine s_pkT rfl rfl rfl ?_
       refine Reg.nil ?_
       obtain rfl := Option.some.inj h123
       refine ⟨rfl, true, ⟨(hI146.sel [2, 3, 4] rfl), ((x131.trans ((Adv.of_ext e135).trans (x141.trans (Adv.of_ext e145)))).trans (Hp.selA (σ := [ownR [] (intE .i64) 3 v138 ([m.need] : List Int), ownR [] (intE .i64) 3 v128 ([m.traits] : List Int), ownR [] I87E 87 v74 x73, rowR 80 b11 [Value.int .i64 m.traits, v_m_1, v_m_2, Value.int .i64 m.need, v74], rowR 80 b7 [Value.int .i64 0, Value.slice none 0 0, Value.slice none 0 0, Value.int .i64 0, Value.slice none 0 0]]) [2, 3, 4])), rfl⟩, Sub.cons rfl (Sub.cons rfl (Sub.cons rfl (Sub.nil _)))⟩
      ·replace h123 := cdF hg148 h123
       refine Reg.take rfl rfl ?_
       refine s_fa rfl Try.underlying25 rfl Try.sizeOf23 rfl ?_
       refine Reg.take rfl rfl ?_
       refine s_ld rfl ((hC6.adv (x10.trans (x14.trans (x17.trans (hA24.trans (hA77.trans (x131.trans ((Adv.of_ext e135).trans (x141.trans (Adv.of_ext e145)))))))))).cells.at 2 rfl) Try.isAgg23 rfl ?_
       refine Reg.take rfl rfl ?_
       refine s_len rfl (f_m_2.adv hI146.adv) Try.underlying23 rfl ?_
       refine Reg.take rfl rfl ?_
       refine s_gtr rfl rfl rfl ?_
       refine s_pkF rfl rfl rfl ?_
       refine s_mv rfl rfl ?_
       refine Reg.gsplit (t := 67) rfl (fun hg149 => ?_) (fun hg149 => ?_)
       ·replace h123 := cdT hg149 h123
        refine Reg.pass rfl rfl rfl rfl ?_
        refine Reg.pass rfl rfl rfl rfl ?_
        refine Reg.pass rfl rfl rfl rfl ?_
        refine Reg.pass rfl rfl rfl rfl ?_
        refine s_pkT rfl rfl rfl ?_
        refine Reg.nil ?_
        obtain rfl := Option.some.inj h123
        refine ⟨rfl, true, ⟨(hI146.sel [2, 3, 4] rfl), ((x131.trans ((Adv.of_ext e135).trans (x141.trans (Adv.of_ext e145)))).trans (Hp.selA (σ := [ownR [] (intE .i64) 3 v138 ([m.need] : List Int), ownR [] (intE .i64) 3 v128 ([m.traits] : List Int), ownR [] I87E 87 v74 x73, rowR 80 b11 [Value.int .i64 m.traits, v_m_1, v_m_2, Value.int .i64 m.need, v74], rowR 80 b7 [Value.int .i64 0, Value.slice none 0 0, Value.slice none 0 0, Value.int .i64 0, Value.slice none 0 0]]) [2, 3, 4])), rfl⟩, Sub.cons rfl (Sub.cons rfl (Sub.cons rfl (Sub.nil _)))⟩
       ·replace h123 := cdF hg149 h123
        refine Reg.take rfl rfl ?_
        refine s_fa rfl Try.underlying80 rfl Try.sizeOf78 rfl ?_
        refine Reg.take rfl rfl ?_
        refine s_ld rfl ((hI146.row 3 rfl).rd.cells.at 4 rfl) Try.isAgg78 rfl ?_
        refine Reg.take rfl rfl ?_
        refine s_mv rfl rfl ?_
        refine Reg.take rfl rfl ?_
        obtain ⟨z150, hz151, h123⟩ := bnd h123
        refine s_call rfl Try.call54 rfl ?_
        refine (C_slices_ContainsFunc_54 (hI146.sel [0, 1, 3, 4] rfl).mlt (hI146.lendRd [0, 1, 3, 4] 2 rfl rfl) (fun a0 a1 r w9 e9 f0 hr => CallsV.ofL Try.call52 rfl (C_score_open_in1 ((hI146.sel [0, 1, 3, 4] rfl).mlt.ext e9) f0 f_m_0 ((f_m_1.adv hI146.adv).adv ((Hp.selA (σ := [ownR [] (intE .i64) 3 v138 ([m.need] : List Int), ownR [] (intE .i64) 3 v128 ([m.traits] : List Int), ownR [] I87E 87 v74 x73, rowR 80 b11 [Value.int .i64 m.traits, v_m_1, v_m_2, Value.int .i64 m.need, v74], rowR 80 b7 [Value.int .i64 0, Value.slice none 0 0, Value.slice none 0 0, Value.int .i64 0, Value.slice none 0 0]]) (M := M) [0, 1, 3, 4]).trans (Adv.of_ext e9))) ((f_m_2.adv hI146.adv).adv ((Hp.selA (σ := [ownR [] (intE .i64) 3 v138 ([m.need] : List Int), ownR [] (intE .i64) 3 v128 ([m.traits] : List Int), ownR [] I87E 87 v74 x73, rowR 80 b11 [Value.int .i64 m.traits, v_m_1, v_m_2, Value.int .i64 m.need, v74], rowR 80 b7 [Value.int .i64 0, Value.slice none 0 0, Value.slice none 0 0, Value.int .i64 0, Value.slice none 0 0]]) (M := M) [0, 1, 3, 4]).trans (Adv.of_ext e9))) f_m_3 ((hC6.adv (x10.trans (x14.trans (x17.trans (hA24.trans (hA77.trans (x131.trans ((Adv.of_ext e135).trans (x141.trans (Adv.of_ext e145)))))))))).adv ((Hp.selA (σ := [ownR [] (intE .i64) 3 v138 ([m.need] : List Int), ownR [] (intE .i64) 3 v128 ([m.traits] : List Int), ownR [] I87E 87 v74 x73, rowR 80 b11 [Value.int .i64 m.traits, v_m_1, v_m_2, Value.int .i64 m.need, v74], rowR 80 b7 [Value.int .i64 0, Value.slice none 0 0, Value.slice none 0 0, Value.int .i64 0, Value.slice none 0 0]]) (M := M) [0, 1, 3, 4]).trans (Adv.of_ext e9))) hr)) hz151).mono ?_
        rintro _ w152 ⟨rfl, e153⟩
        refine ⟨_, rfl, ?_⟩
        have hI154 := hI146.ext e153
        refine s_pkF rfl rfl rfl ?_
        refine Reg.nil ?_
        obtain rfl := Option.some.inj h123
        refine ⟨rfl, z150, ⟨(hI154.sel [2, 3, 4] rfl), ((x131.trans ((Adv.of_ext e135).trans (x141.trans ((Adv.of_ext e145).trans (Adv.of_ext e153))))).trans (Hp.selA (σ := [ownR [] (intE .i64) 3 v138 ([m.need] : List Int), ownR [] (intE .i64) 3 v128 ([m.traits] : List Int), ownR [] I87E 87 v74 x73, rowR 80 b11 [Value.int .i64 m.traits, v_m_1, v_m_2, Value.int .i64 m.need, v74], rowR 80 b7 [Value.int .i64 0, Value.slice none 0 0, Value.slice none 0 0, Value.int .i64 0, Value.slice none 0 0]]) [2, 3, 4])), rfl⟩, Sub.cons rfl (Sub.cons rfl (Sub.cons rfl (Sub.nil _)))⟩
   ·skip
    rintro x124 w125 ⟨hI126, hA127, rfl⟩
    refine cw_cond rfl (fun hc155 => ?_) (fun hc155 => ?_)
    ·replace h := cdT hc155 h
     refine cw_seq (cw_regF ?_)
     refine s_bd [(0, 4), (4, 1)] Try.zeroValue80 rfl Try.underlying80 (fun _ => by simp [Try.sizeOf25, Try.sizeOf78]) rfl (Cls.nil) rfl rfl ?_
     refine y_st 2 hI126 rfl rfl rfl rfl Try.sizeOf80 rfl rfl (one1 rfl (one1 rfl (one1 rfl (one1 rfl (one1 rfl one0))))) ?_
     intro w156 hI157 x158
     refine s_as rfl rfl ?_
     refine Reg.nil ?_
     refine cw_ret ?_
     obtain ⟨rfl, rfl⟩ := inj2 h
     refine fin_any Try.results37 (AllRs.cons (RsOk.agg rfl (hI157.row 2 rfl).rd.cells Try.isAgg80 rfl Try.sizeOf80) (AllRs.cons (RsOk.tmp rfl) (AllRs.nil))) rfl ?_
     exact ⟨_, _, _, rfl, (by decide), (RdS.nil _ _ _), (RdS.nil _ _ _), (by decide), (RdS.nil _ _ _), (by decide), hI157.kp⟩
    ·replace h := cdF hc155 h
     refine cw_skip (cw_seq (cw_regF ?_))
     refine s_lda rfl (hI126.row 1 rfl).rd.cells Try.isAgg80 rfl Try.sizeOf80 rfl ?_
     refine y_st 2 hI126 rfl rfl rfl rfl Try.sizeOf80 rfl rfl (one1 rfl (one1 (RdS.oneC f_m_1) (one1 (RdS.oneC f_m_2) (one1 rfl (one1 (Own.oneC (hI126.ownAt 0 rfl)) one0))))) ?_
     intro w159 hI160 x161
     refine s_as rfl rfl ?_
     refine Reg.nil ?_
     refine cw_ret ?_
     obtain ⟨rfl, rfl⟩ := inj2 h
     have hf162 := hI160.freeze 0 rfl
     have hI163 := hI160.erase 0
     refine fin_any Try.results37 (AllRs.cons (RsOk.agg rfl (hI163.row 1 rfl).rd.cells Try.isAgg80 rfl Try.sizeOf80) (AllRs.cons (RsOk.tmp rfl) (AllRs.nil))) rfl ?_
     exact ⟨_, _, _, rfl, f_m_0, ((f_m_1.adv hI163.adv).adv (Hp.baseA (σ := [rowR 80 b11 [Value.int .i64 m.traits, v_m_1, v_m_2, Value.int .i64 m.need, v74], rowR 80 b7 [Value.int .i64 m.traits, v_m_1, v_m_2, Value.int .i64 m.need, v74]]))), ((f_m_2.adv hI163.adv).adv (Hp.baseA (σ := [rowR 80 b11 [Value.int .i64 m.traits, v_m_1, v_m_2, Value.int .i64 m.need, v74], rowR 80 b7 [Value.int .i64 m.traits, v_m_1, v_m_2, Value.int .i64 m.need, v74]]))), f_m_3, (hf162.adv (Hp.baseA (σ := [rowR 80 b11 [Value.int .i64 m.traits, v_m_1, v_m_2, Value.int .i64 m.need, v74], rowR 80 b7 [Value.int .i64 m.traits, v_m_1, v_m_2, Value.int .i64 m.need, v74]]))), (by decide), hI163.kp⟩
noncomputable def P.score_Check (m : Model) : Option Int :=
 Option.bind (P.score_open (Model.mk m.traits m.cards m.trees m.need)) fun (z7, z8) => some z8
theorem C_score_Check {M : List Nat} {w : World} (hM : MLt M w) {m : Model} {v_m_1 : Value} {v_m_2 : Value} (f_m_0 : InK .i64 m.traits) (f_m_1 : RdS CardE M w v_m_1 m.cards) (f_m_2 : RdS TreeE M w v_m_2 m.trees) (f_m_3 : InK .i64 m.need) {r0 : Int} (h : P.score_Check m = some r0) :
  Calls Try.prog 18 (List.toArray [Value.agg (List.toArray [Value.int .i64 m.traits, v_m_1, v_m_2, Value.int .i64 m.need])]) w fun e w' => e = .returned (Value.int .i64 r0) ∧ InK .i64 r0 ∧ Ext w w' := by
 have hI := Hp.start (Mu := []) hM
 refine calls_cw Try.func18 rfl Try.ntmps18 rfl ?_
 refine cw_seq (cw_regF ?_)
 refine y_box hI rfl rfl rfl ?_
 intro b1 w2 hI3 x4
 have hC6 := hI3.freezeRow 0 rfl
 have hI5 := hI3.erase 0
 refine s_as rfl rfl ?_
 refine Reg.nil ?_
 refine cw_seq (cw_regF ?_)
 refine s_lda rfl hC6.cells Try.isAgg25 rfl Try.sizeOf25 rfl ?_
 obtain ⟨⟨z7, z8⟩, hz9, h⟩ := bnd h
 refine s_call rfl Try.call37 rfl ?_
 refine (C_score_open hI5.mlt f_m_0 (f_m_1.adv hI5.adv) (f_m_2.adv hI5.adv) f_m_3 hz9).mono ?_
 rintro _ w10 ⟨v13, v15, v18, rfl, r12, hf14, hf16, r17, hf19, r20, e11⟩
 refine ⟨_, rfl, ?_⟩
 have hI21 := hI5.ext e11
 refine s_mv rfl rfl ?_
 refine s_xt rfl rfl rfl ?_
 refine s_xt rfl rfl rfl ?_
 refine y_al hI21 Try.zeroValue80 rfl rfl ?_
 intro b22 w23 hI24 x25
 refine y_st 0 hI24 rfl rfl rfl rfl Try.sizeOf80 rfl rfl (one1 rfl (one1 (RdS.oneC hf14) (one1 (RdS.oneC hf16) (one1 rfl (one1 (RdS.oneC hf19) one0))))) ?_
 intro w26 hI27 x28
 have hC30 := hI27.freezeRow 0 rfl
 have hI29 := hI27.erase 0
 refine s_as rfl rfl ?_
 refine Reg.nil ?_
 refine cw_seq (cw_regF ?_)
 refine s_mv rfl rfl ?_
 refine s_as rfl rfl ?_
 refine Reg.nil ?_
 refine cw_ret ?_
 obtain rfl := Option.some.inj h
 refine fin1 Try.results18 rfl ?_
 exact ⟨rfl, r20, hI29.kp⟩
noncomputable def P.score_asked (m : Model) (x : (List Int)) : Option (Works × Int) :=
 Option.bind (P.score_open (Model.mk m.traits m.cards m.trees m.need)) fun (z11, z12) => Option.bind (cond (decide (z12 = 0)) (cond (!decide ((x.length : Int) = m.traits)) (some true) (Option.bind (P.score_within (-1) 1000000 x) fun z37 => some (!z37))) (some false)) fun x42 => cond x42 (some ((Works.mk (Model.mk z11.model.traits z11.model.cards z11.model.trees z11.model.need) z11.parts), 61)) (some ((Works.mk (Model.mk z11.model.traits z11.model.cards z11.model.trees z11.model.need) z11.parts), z12))
theorem C_score_asked {M : List Nat} {w : World} (hM : MLt M w) {m : Model} {v_m_1 : Value} {v_m_2 : Value} (f_m_0 : InK .i64 m.traits) (f_m_1 : RdS CardE M w v_m_1 m.cards) (f_m_2 : RdS TreeE M w v_m_2 m.trees) (f_m_3 : InK .i64 m.need) {x : (List Int)} {v_x_0 : Value} (f_x_0 : RdS (intE .i64) M w v_x_0 x) {r0 : Works} {r1 : Int} (h : P.score_asked m x = some (r0, r1)) :
  Calls Try.prog 31 (List.toArray [Value.agg (List.toArray [Value.int .i64 m.traits, v_m_1, v_m_2, Value.int .i64 m.need]), v_x_0]) w fun e w' => ∃ v0_1 : Value, ∃ v0_2 : Value, ∃ v0_4 : Value, e = .returned (Value.tuple (List.toArray [Value.agg (List.toArray [Value.int .i64 r0.model.traits, v0_1, v0_2, Value.int .i64 r0.model.need, v0_4]), Value.int .i64 r1])) ∧ InK .i64 r0.model.traits ∧ RdS CardE M w' v0_1 r0.model.cards ∧ RdS TreeE M w' v0_2 r0.model.trees ∧ InK .i64 r0.model.need ∧ RdS I87E M w' v0_4 r0.parts ∧ InK .i64 r1 ∧ Ext w w' := by
 have hI := Hp.start (Mu := []) hM
 refine calls_cw Try.func31 rfl Try.ntmps31 rfl ?_
 refine cw_seq (cw_regF ?_)
 refine y_box hI rfl rfl rfl ?_
 intro b1 w2 hI3 x4
 have hC6 := hI3.freezeRow 0 rfl
 have hI5 := hI3.erase 0
 refine y_al hI5 Try.zeroValue80 rfl rfl ?_
 intro b7 w8 hI9 x10
 refine s_as rfl rfl ?_
 refine Reg.nil ?_
 refine cw_seq (cw_regF ?_)
 refine s_lda rfl (hC6.adv x10).cells Try.isAgg25 rfl Try.sizeOf25 rfl ?_
 obtain ⟨⟨z11, z12⟩, hz13, h⟩ := bnd h
 refine s_call rfl Try.call37 rfl ?_
 refine (C_score_open hI9.mlt f_m_0 (f_m_1.adv hI9.adv) (f_m_2.adv hI9.adv) f_m_3 hz13).mono ?_
 rintro _ w14 ⟨v17, v19, v22, rfl, r16, hf18, hf20, r21, hf23, r24, e15⟩
 refine ⟨_, rfl, ?_⟩
 have hI25 := hI9.ext e15
 refine s_mv rfl rfl ?_
 refine s_xt rfl rfl rfl ?_
 refine s_xt rfl rfl rfl ?_
 refine y_al hI25 Try.zeroValue80 rfl rfl ?_
 intro b26 w27 hI28 x29
 refine y_st 0 hI28 rfl rfl rfl rfl Try.sizeOf80 rfl rfl (one1 rfl (one1 (RdS.oneC hf18) (one1 (RdS.oneC hf20) (one1 rfl (one1 (RdS.oneC hf23) one0))))) ?_
 intro w30 hI31 x32
 have hC34 := hI31.freezeRow 0 rfl
 have hI33 := hI31.erase 0
 refine s_as rfl rfl ?_
 refine Reg.nil ?_
 refine cw_seq ?_
 obtain ⟨j35, h36, h⟩ := bnd h
 refine cw_sub (L := [(1, _), (2, _), (4, _), (6, _), (7, _)]) (Sub.cons rfl (Sub.cons rfl (Sub.cons rfl (Sub.cons rfl (Sub.cons rfl (Sub.nil _)))))) ?_
 refine cw_seqD 2 (ι := Bool) (fun x37 => [(26, Value.bool x37)]) (fun x37 => fun w38 => Hp w [] M [rowR 80 b7 [Value.int .i64 0, Value.slice none 0 0, Value.slice none 0 0, Value.int .i64 0, Value.slice none 0 0]] w38 ∧ Adv (mm [rowR 80 b7 [Value.int .i64 0, Value.slice none 0 0, Value.slice none 0 0, Value.int .i64 0, Value.slice none 0 0]] M) (mm [rowR 80 b7 [Value.int .i64 0, Value.slice none 0 0, Value.slice none 0 0, Value.int .i64 0, Value.slice none 0 0]] M) w30 w38 ∧ x37 = j35) ?_ ?_
 ·skip
  refine cw_regF ?_
  refine s_mv rfl rfl ?_
  refine s_eql rfl rfl rfl ?_
  refine s_mv rfl rfl ?_
  refine Reg.gsplit (t := 15) rfl (fun hg41 => ?_) (fun hg41 => ?_)
  ·replace h36 := cdT hg41 h36
   refine Reg.take rfl rfl ?_
   refine s_mv rfl rfl ?_
   refine Reg.take rfl rfl ?_
   refine s_len rfl (f_x_0.adv hI33.adv) Try.underlying26 rfl ?_
   refine Reg.take rfl rfl ?_
   refine s_fa rfl Try.underlying25 rfl Try.sizeOf3 rfl ?_
   refine Reg.take rfl rfl ?_
   refine s_ld rfl ((hC6.adv (x10.trans ((Adv.of_ext e15).trans (x29.trans (x32.trans (Hp.eraseA (σ := [rowR 80 b26 [Value.int .i64 z11.model.traits, v17, v19, Value.int .i64 z11.model.need, v22], rowR 80 b7 [Value.int .i64 0, Value.slice none 0 0, Value.slice none 0 0, Value.int .i64 0, Value.slice none 0 0]]) 0)))))).cells.at 0 rfl) Try.isAgg3 rfl ?_
   refine Reg.take rfl rfl ?_
   refine s_neq rfl rfl rfl ?_
   refine Reg.take rfl rfl ?_
   refine s_mv rfl rfl ?_
   refine Reg.gsplit (t := 21) rfl (fun hg42 => ?_) (fun hg42 => ?_)
   ·replace h36 := cdT hg42 h36
    refine Reg.pass rfl rfl rfl rfl ?_
    refine Reg.pass rfl rfl rfl rfl ?_
    refine Reg.pass rfl rfl rfl rfl ?_
    refine Reg.take rfl rfl ?_
    refine s_pkT rfl rfl rfl ?_
    refine s_pkT rfl rfl rfl ?_
    refine Reg.nil ?_
    obtain rfl := Option.some.inj h36
    refine ⟨rfl, true, ⟨hI33, (Adv.refl _ _), rfl⟩, Sub.cons rfl (Sub.cons rfl (Sub.cons rfl (Sub.cons rfl (Sub.nil _))))⟩
   ·replace h36 := cdF hg42 h36
    refine Reg.take rfl rfl ?_
    refine s_mv rfl rfl ?_
    refine Reg.take rfl rfl ?_
    obtain ⟨z43, hz44, h36⟩ := bnd h36
    refine s_call rfl Try.call43 rfl ?_
    refine (C_score_within hI33.mlt (by decide) (by decide) (f_x_0.adv hI33.adv) hz44).mono ?_
    rintro _ w45 ⟨rfl, e46⟩
    refine ⟨_, rfl, ?_⟩
    have hI47 := hI33.ext e46
    refine Reg.take rfl rfl ?_
    refine s_not rfl rfl ?_
    refine Reg.take rfl rfl ?_
    refine s_pkF rfl rfl rfl ?_
    refine s_pkT rfl rfl rfl ?_
    refine Reg.nil ?_
    obtain rfl := Option.some.inj h36
    refine ⟨rfl, !z43, ⟨hI47, (Adv.of_ext e46), rfl⟩, Sub.cons rfl (Sub.cons rfl (Sub.cons rfl (Sub.cons rfl (Sub.nil _))))⟩
  ·replace h36 := cdF hg41 h36
   refine Reg.pass rfl rfl rfl rfl ?_
   refine Reg.pass rfl rfl rfl rfl ?_
   refine Reg.pass rfl rfl rfl rfl ?_
   refine Reg.pass rfl rfl rfl rfl ?_
   refine Reg.pass rfl rfl rfl rfl ?_
   refine Reg.pass rfl rfl rfl rfl ?_
   refine Reg.passU rfl rfl rfl ?_
   refine Reg.passU rfl rfl rfl ?_
   refine Reg.passU rfl rfl rfl ?_
   refine Reg.pass rfl rfl rfl rfl ?_
   refine s_pkF rfl rfl rfl ?_
   refine Reg.nil ?_
   obtain rfl := Option.some.inj h36
   refine ⟨rfl, false, ⟨hI33, (Adv.refl _ _), rfl⟩, Sub.cons rfl (Sub.cons rfl (Sub.cons rfl (Sub.cons rfl (Sub.nil _))))⟩
 ·skip
  rintro x37 w38 ⟨hI39, hA40, rfl⟩
  refine cw_cond rfl (fun hc48 => ?_) (fun hc48 => ?_)
  ·replace h := cdT hc48 h
   refine cw_seq (cw_regF ?_)
   refine s_lda rfl (hC34.adv hA40).cells Try.isAgg80 rfl Try.sizeOf80 rfl ?_
   refine y_st 0 hI39 rfl rfl rfl rfl Try.sizeOf80 rfl rfl (one1 rfl (one1 (RdS.oneC hf18) (one1 (RdS.oneC hf20) (one1 rfl (one1 (RdS.oneC hf23) one0))))) ?_
   intro w49 hI50 x51
   refine s_as rfl rfl ?_
   refine Reg.nil ?_
   refine cw_ret ?_
   obtain ⟨rfl, rfl⟩ := inj2 h
   refine fin_any Try.results31 (AllRs.cons (RsOk.agg rfl (hI50.row 0 rfl).rd.cells Try.isAgg80 rfl Try.sizeOf80) (AllRs.cons (RsOk.tmp rfl) (AllRs.nil))) rfl ?_
   exact ⟨_, _, _, rfl, r16, ((hf18.adv (x29.trans (x32.trans ((Hp.eraseA (σ := [rowR 80 b26 [Value.int .i64 z11.model.traits, v17, v19, Value.int .i64 z11.model.need, v22], rowR 80 b7 [Value.int .i64 0, Value.slice none 0 0, Value.slice none 0 0, Value.int .i64 0, Value.slice none 0 0]]) 0).trans (hA40.trans x51))))).adv (Hp.baseA (σ := [rowR 80 b7 [Value.int .i64 z11.model.traits, v17, v19, Value.int .i64 z11.model.need, v22]]))), ((hf20.adv (x29.trans (x32.trans ((Hp.eraseA (σ := [rowR 80 b26 [Value.int .i64 z11.model.traits, v17, v19, Value.int .i64 z11.model.need, v22], rowR 80 b7 [Value.int .i64 0, Value.slice none 0 0, Value.slice none 0 0, Value.int .i64 0, Value.slice none 0 0]]) 0).trans (hA40.trans x51))))).adv (Hp.baseA (σ := [rowR 80 b7 [Value.int .i64 z11.model.traits, v17, v19, Value.int .i64 z11.model.need, v22]]))), r21, ((hf23.adv (x29.trans (x32.trans ((Hp.eraseA (σ := [rowR 80 b26 [Value.int .i64 z11.model.traits, v17, v19, Value.int .i64 z11.model.need, v22], rowR 80 b7 [Value.int .i64 0, Value.slice none 0 0, Value.slice none 0 0, Value.int .i64 0, Value.slice none 0 0]]) 0).trans (hA40.trans x51))))).adv (Hp.baseA (σ := [rowR 80 b7 [Value.int .i64 z11.model.traits, v17, v19, Value.int .i64 z11.model.need, v22]]))), (by decide), hI50.kp⟩
  ·replace h := cdF hc48 h
   refine cw_skip (cw_seq (cw_regF ?_))
   refine s_lda rfl (hC34.adv hA40).cells Try.isAgg80 rfl Try.sizeOf80 rfl ?_
   refine s_mv rfl rfl ?_
   refine y_st 0 hI39 rfl rfl rfl rfl Try.sizeOf80 rfl rfl (one1 rfl (one1 (RdS.oneC hf18) (one1 (RdS.oneC hf20) (one1 rfl (one1 (RdS.oneC hf23) one0))))) ?_
   intro w52 hI53 x54
   refine s_as rfl rfl ?_
   refine Reg.nil ?_
   refine cw_ret ?_
   obtain ⟨rfl, rfl⟩ := inj2 h
   refine fin_any Try.results31 (AllRs.cons (RsOk.agg rfl (hI53.row 0 rfl).rd.cells Try.isAgg80 rfl Try.sizeOf80) (AllRs.cons (RsOk.tmp rfl) (AllRs.nil))) rfl ?_
   exact ⟨_, _, _, rfl, r16, ((hf18.adv (x29.trans (x32.trans ((Hp.eraseA (σ := [rowR 80 b26 [Value.int .i64 z11.model.traits, v17, v19, Value.int .i64 z11.model.need, v22], rowR 80 b7 [Value.int .i64 0, Value.slice none 0 0, Value.slice none 0 0, Value.int .i64 0, Value.slice none 0 0]]) 0).trans (hA40.trans x54))))).adv (Hp.baseA (σ := [rowR 80 b7 [Value.int .i64 z11.model.traits, v17, v19, Value.int .i64 z11.model.need, v22]]))), ((hf20.adv (x29.trans (x32.trans ((Hp.eraseA (σ := [rowR 80 b26 [Value.int .i64 z11.model.traits, v17, v19, Value.int .i64 z11.model.need, v22], rowR 80 b7 [Value.int .i64 0, Value.slice none 0 0, Value.slice none 0 0, Value.int .i64 0, Value.slice none 0 0]]) 0).trans (hA40.trans x54))))).adv (Hp.baseA (σ := [rowR 80 b7 [Value.int .i64 z11.model.traits, v17, v19, Value.int .i64 z11.model.need, v22]]))), r21, ((hf23.adv (x29.trans (x32.trans ((Hp.eraseA (σ := [rowR 80 b26 [Value.int .i64 z11.model.traits, v17, v19, Value.int .i64 z11.model.need, v22], rowR 80 b7 [Value.int .i64 0, Value.slice none 0 0, Value.slice none 0 0, Value.int .i64 0, Value.slice none 0 0]]) 0).trans (hA40.trans x54))))).adv (Hp.baseA (σ := [rowR 80 b7 [Value.int .i64 z11.model.traits, v17, v19, Value.int .i64 z11.model.need, v22]]))), r24, hI53.kp⟩
noncomputable def P.M87_points (x : I87) (x0 : (List Int)) : Option Int := match x with
 | .c105 y => P.score_card_points y x0
 | .c106 y => P.score_tree_points y x0
theorem C_M87_points {nm : String} (q105 : ∀ u w, (method (Try.prog.types.size + Made.depth) 105 u nm).run Try.prog w = .ok (126, u) w) (q106 : ∀ u w, (method (Try.prog.types.size + Made.depth) 106 u nm).run Try.prog w = .ok (136, u) w) {M : List Nat} {w : World} (hM : MLt M w) {v : Value} {x : I87} (hx : I87E.R M w [v] x) {x0 : (List Int)} {v_x0_0 : Value} (f_x0_0 : RdS (intE .i64) M w v_x0_0 x0) {r : Int} (h : P.M87_points x x0 = some r) :
  CallsI Try.prog v nm [v_x0_0] w fun e w' => e = .returned (Value.int .i64 r) ∧ InK .i64 r ∧ Ext w w' := by
 cases x with
 | c105 y =>
  obtain ⟨ds, he, hR⟩ := hx
  cases he
  obtain ⟨v2, rfl, g0, g1, g2⟩ := CardE_R.1 hR
  exact ⟨126, _, ⟨105, _, rfl, q105 _, Try.call126⟩, C_score_card_points hM g0 g1 g2 f_x0_0 h⟩
 | c106 y =>
  obtain ⟨ds, he, hR⟩ := hx
  cases he
  obtain ⟨v1, rfl, g0, g1⟩ := TreeE_R.1 hR
  exact ⟨136, _, ⟨106, _, rfl, q106 _, Try.call136⟩, C_score_tree_points hM g0 g1 f_x0_0 h⟩
noncomputable def P.score_works_score (w_ : Works) (x : (List Int)) : Option Int :=
 Option.bind (loopM (S := Int × Int) (R := (Int)) (fun (x7, x8) => cond (decide (x8 < (w_.parts.length : Int))) (Option.bind (ixo w_.parts x8) fun y10 => Option.bind (P.M87_weight y10) fun z18 => Option.bind (P.M87_points y10 x) fun z23 => Option.bind (chk .i64 (z18 * z23)) fun n28 => Option.bind (chk .i64 (x7 + n28)) fun n29 => Option.bind (chk .i64 (x8 + 1)) fun n30 => some (.inl (n29, n30))) (some (.inr x7))) (0, 0)) fun x31 => some x31
theorem C_score_works_score {M : List Nat} {w : World} (hM : MLt M w) {w_ : Works} {v_w__1 : Value} {v_w__2 : Value} {v_w__4 : Value} (f_w__0 : InK .i64 w_.model.traits) (f_w__1 : RdS CardE M w v_w__1 w_.model.cards) (f_w__2 : RdS TreeE M w v_w__2 w_.model.trees) (f_w__3 : InK .i64 w_.model.need) (f_w__4 : RdS I87E M w v_w__4 w_.parts) {x : (List Int)} {v_x_0 : Value} (f_x_0 : RdS (intE .i64) M w v_x_0 x) {r0 : Int} (h : P.score_works_score w_ x = some r0) :
  Calls Try.prog 32 (List.toArray [Value.agg (List.toArray [Value.int .i64 w_.model.traits, v_w__1, v_w__2, Value.int .i64 w_.model.need, v_w__4]), v_x_0]) w fun e w' => e = .returned (Value.int .i64 r0) ∧ InK .i64 r0 ∧ Ext w w' := by
 have hI := Hp.start (Mu := []) hM
 refine calls_cw Try.func32 rfl Try.ntmps32 rfl ?_
 refine cw_seq (cw_regF ?_)
 refine y_box hI rfl rfl rfl ?_
 intro b1 w2 hI3 x4
 have hC6 := hI3.freezeRow 0 rfl
 have hI5 := hI3.erase 0
 refine s_as rfl rfl ?_
 refine Reg.nil ?_
 refine cw_seq (cw_seq (cw_regF ?_))
 refine s_fa rfl Try.underlying80 rfl Try.sizeOf78 rfl ?_
 refine s_ld rfl (hC6.cells.at 4 rfl) Try.isAgg78 rfl ?_
 refine s_len rfl (f_w__4.adv hI5.adv) Try.underlying78 rfl ?_
 refine s_mv rfl rfl ?_
 refine Reg.nil ?_
 obtain ⟨j7, h8, h⟩ := bnd h
 refine cw_sub (L := [(1, _), (4, _), (8, _), (9, _), (10, _)]) (Sub.cons rfl (Sub.cons rfl (Sub.cons rfl (Sub.cons rfl (Sub.cons rfl (Sub.nil _)))))) ?_
 refine cw_unitD 5 (ι := Int) (fun x9 => [(4, Value.int .i64 x9)]) (fun x9 => fun w11 => Hp w [] M [] w11 ∧ Adv (mm [] M) (mm [] M) w2 w11 ∧ InK .i64 x9 ∧ x9 = j7) ?_ ?_
 ·skip
  refine cw_block ?_
  refine cw_sub (L := [(4, _), (10, _), (1, _), (8, _), (9, _)]) (Sub.cons rfl (Sub.cons rfl (Sub.cons rfl (Sub.cons rfl (Sub.cons rfl (Sub.nil _)))))) ?_
  refine cw_loopM 2 (ι := Int × Int) _ (fun ⟨x14, x16⟩ => [(4, Value.int .i64 x14), (10, Value.int .i64 x16)]) (fun ⟨x14, x16⟩ => (x14, x16)) (fun ⟨x14, x16⟩ => fun w18 => Hp w [] M [] w18 ∧ Adv (mm [] M) (mm [] M) w2 w18 ∧ InK .i64 x14 ∧ InK .i64 x16) (0, 0) h8 ⟨hI5, (Adv.refl _ _), (by decide), (by decide)⟩ (Sub.cons rfl (Sub.cons rfl (Sub.cons rfl (Sub.cons rfl (Sub.cons rfl (Sub.nil _)))))) ?_
  rintro ⟨x14, x16⟩ w18 ⟨hI19, hA20, r15, r17⟩ y21 h22 hR23
  refine cw_seq (cw_regF ?_)
  refine s_lss rfl rfl rfl ?_
  refine Reg.nil ?_
  refine cw_seq ?_
  refine cw_cond rfl (fun hc24 => ?_) (fun hc24 => ?_)
  ·replace h22 := cdT hc24 h22
   refine cw_skip ?_
   refine cw_seq ?_
   refine cw_block ?_
   refine cw_seq (cw_regF ?_)
   obtain ⟨y25, hy25, h22⟩ := bnd h22
   refine p_ia rfl rfl (f_w__4.adv hI19.adv) hy25 Try.underlying78 Try.sizeOf87 rfl ?_
   intro b26 o27 cs28 hR29 hC30
   obtain ⟨v31, rfl, hf32⟩ := I87E_one hR29
   refine s_ld rfl (hC30.cells.at 0 rfl) Try.isAgg87 rfl ?_
   refine s_as rfl rfl ?_
   refine Reg.nil ?_
   refine cw_regF ?_
   refine s_mv rfl rfl ?_
   refine s_mv rfl rfl ?_
   obtain ⟨z33, hz33, h22⟩ := bnd h22
   refine s_invD rfl rfl rfl ?_
   refine (C_M87_weight (fun _ _ => by kernel_rfl) (fun _ _ => by kernel_rfl) hI19.mlt hf32 hz33).mono ?_
   rintro _ w34 ⟨rfl, r36, e35⟩
   refine ⟨_, rfl, ?_⟩
   have hI37 := hI19.ext e35
   refine s_mv rfl rfl ?_
   refine s_mv rfl rfl ?_
   obtain ⟨z38, hz38, h22⟩ := bnd h22
   refine s_invD rfl rfl rfl ?_
   refine (C_M87_points (fun _ _ => by kernel_rfl) (fun _ _ => by kernel_rfl) hI37.mlt (I87E.adv hf32 (Adv.of_ext e35)) (f_x_0.adv hI37.adv) hz38).mono ?_
   rintro _ w39 ⟨rfl, r41, e40⟩
   refine ⟨_, rfl, ?_⟩
   have hI42 := hI37.ext e40
   obtain ⟨n43, hn43, h22⟩ := bnd h22
   replace hn43 := chk_out hn43
   refine p_mul rfl rfl rfl hn43 ?_
   obtain ⟨n44, hn44, h22⟩ := bnd h22
   replace hn44 := chk_out hn44
   refine p_add rfl rfl rfl hn44 ?_
   refine s_as rfl rfl ?_
   refine Reg.nil ?_
   refine cw_regF ?_
   obtain ⟨n45, hn45, h22⟩ := bnd h22
   replace hn45 := chk_out hn45
   refine p_add rfl rfl rfl hn45 ?_
   refine s_mv rfl rfl ?_
   refine Reg.nil ?_
   obtain rfl := Option.some.inj h22
   refine ⟨rfl, (n44, n45), ⟨⟨hI42, (hA20.trans ((Adv.of_ext e35).trans (Adv.of_ext e40))), hn44.2, hn45.2⟩, rfl⟩, Sub.cons rfl (Sub.cons rfl (Sub.cons rfl (Sub.cons rfl (Sub.cons rfl (Sub.nil _)))))⟩
  ·replace h22 := cdF hc24 h22
   refine cw_exit ?_
   refine exB_same ?_
   obtain rfl := Option.some.inj h22
   obtain rfl := hR23 _ rfl
   refine ⟨rfl, x14, ⟨hI19, hA20, r15, rfl⟩, Sub.cons rfl (Sub.nil _)⟩
 ·skip
  rintro x9 w11 ⟨hI12, hA13, r10, rfl⟩
  refine cw_seq (cw_regF ?_)
  refine s_mv rfl rfl ?_
  refine s_as rfl rfl ?_
  refine Reg.nil ?_
  refine cw_ret ?_
  obtain rfl := Option.some.inj h
  refine fin1 Try.results32 rfl ?_
  exact ⟨rfl, r10, hI12.kp⟩
noncomputable def P.score_works_enough (w_ : Works) (score : Int) : Option Bool :=
 Option.bind (chk .i64 (w_.model.need * 1000)) fun n7 => some (decide (n7 ≤ score))
theorem C_score_works_enough {M : List Nat} {w : World} (hM : MLt M w) {w_ : Works} {v_w__1 : Value} {v_w__2 : Value} {v_w__4 : Value} (f_w__0 : InK .i64 w_.model.traits) (f_w__1 : RdS CardE M w v_w__1 w_.model.cards) (f_w__2 : RdS TreeE M w v_w__2 w_.model.trees) (f_w__3 : InK .i64 w_.model.need) (f_w__4 : RdS I87E M w v_w__4 w_.parts) {score : Int} (f_score_0 : InK .i64 score) {r0 : Bool} (h : P.score_works_enough w_ score = some r0) :
  Calls Try.prog 33 (List.toArray [Value.agg (List.toArray [Value.int .i64 w_.model.traits, v_w__1, v_w__2, Value.int .i64 w_.model.need, v_w__4]), Value.int .i64 score]) w fun e w' => e = .returned (Value.bool r0) ∧ Ext w w' := by
 have hI := Hp.start (Mu := []) hM
 refine calls_cw Try.func33 rfl Try.ntmps33 rfl ?_
 refine cw_seq (cw_regF ?_)
 refine y_box hI rfl rfl rfl ?_
 intro b1 w2 hI3 x4
 have hC6 := hI3.freezeRow 0 rfl
 have hI5 := hI3.erase 0
 refine s_as rfl rfl ?_
 refine Reg.nil ?_
 refine cw_seq (cw_regF ?_)
 refine s_mv rfl rfl ?_
 refine s_fa rfl Try.underlying80 rfl Try.sizeOf25 rfl ?_
 refine s_fa rfl Try.underlying25 rfl Try.sizeOf3 rfl ?_
 refine s_ld rfl (hC6.cells.at 3 rfl) Try.isAgg3 rfl ?_
 obtain ⟨n7, hn7, h⟩ := bnd h
 replace hn7 := chk_out hn7
 refine p_mul rfl rfl rfl hn7 ?_
 refine s_geq rfl rfl rfl ?_
 refine s_as rfl rfl ?_
 refine Reg.nil ?_
 refine cw_ret ?_
 obtain rfl := Option.some.inj h
 refine fin1 Try.results33 rfl ?_
 exact ⟨rfl, hI5.kp⟩
noncomputable def P.score_Score (m : Model) (x : (List Int)) : Option (Int × Bool × Int) :=
 Option.bind (P.score_asked (Model.mk m.traits m.cards m.trees m.need) x) fun (z7, z8) => cond (!decide (z8 = 0)) (some (0, false, z8)) (Option.bind (P.score_works_score (Works.mk (Model.mk z7.model.traits z7.model.cards z7.model.trees z7.model.need) z7.parts) x) fun z32 => Option.bind (P.score_works_enough (Works.mk (Model.mk z7.model.traits z7.model.cards z7.model.trees z7.model.need) z7.parts) z32) fun z38 => some (z32, z38, 0))
theorem C_score_Score {M : List Nat} {w : World} (hM : MLt M w) {m : Model} {v_m_1 : Value} {v_m_2 : Value} (f_m_0 : InK .i64 m.traits) (f_m_1 : RdS CardE M w v_m_1 m.cards) (f_m_2 : RdS TreeE M w v_m_2 m.trees) (f_m_3 : InK .i64 m.need) {x : (List Int)} {v_x_0 : Value} (f_x_0 : RdS (intE .i64) M w v_x_0 x) {r0 : Int} {r1 : Bool} {r2 : Int} (h : P.score_Score m x = some (r0, r1, r2)) :
  Calls Try.prog 14 (List.toArray [Value.agg (List.toArray [Value.int .i64 m.traits, v_m_1, v_m_2, Value.int .i64 m.need]), v_x_0]) w fun e w' => e = .returned (Value.tuple (List.toArray [Value.int .i64 r0, Value.bool r1, Value.int .i64 r2])) ∧ InK .i64 r0 ∧ InK .i64 r2 ∧ Ext w w' := by
 have hI := Hp.start (Mu := []) hM
 refine calls_cw Try.func14 rfl Try.ntmps14 rfl ?_
 refine cw_seq (cw_regF ?_)
 refine y_box hI rfl rfl rfl ?_
 intro b1 w2 hI3 x4
 have hC6 := hI3.freezeRow 0 rfl
 have hI5 := hI3.erase 0
 refine s_as rfl rfl ?_
 refine s_as rfl rfl ?_
 refine s_as rfl rfl ?_
 refine Reg.nil ?_
 refine cw_seq (cw_regF ?_)
 refine s_lda rfl hC6.cells Try.isAgg25 rfl Try.sizeOf25 rfl ?_
 refine s_mv rfl rfl ?_
 obtain ⟨⟨z7, z8⟩, hz9, h⟩ := bnd h
 refine s_call rfl Try.call31 rfl ?_
 refine (C_score_asked hI5.mlt f_m_0 (f_m_1.adv hI5.adv) (f_m_2.adv hI5.adv) f_m_3 (f_x_0.adv hI5.adv) hz9).mono ?_
 rintro _ w10 ⟨v13, v15, v18, rfl, r12, hf14, hf16, r17, hf19, r20, e11⟩
 refine ⟨_, rfl, ?_⟩
 have hI21 := hI5.ext e11
 refine s_mv rfl rfl ?_
 refine s_xt rfl rfl rfl ?_
 refine s_xt rfl rfl rfl ?_
 refine y_al hI21 Try.zeroValue80 rfl rfl ?_
 intro b22 w23 hI24 x25
 refine y_st 0 hI24 rfl rfl rfl rfl Try.sizeOf80 rfl rfl (one1 rfl (one1 (RdS.oneC hf14) (one1 (RdS.oneC hf16) (one1 rfl (one1 (RdS.oneC hf19) one0))))) ?_
 intro w26 hI27 x28
 have hC30 := hI27.freezeRow 0 rfl
 have hI29 := hI27.erase 0
 refine s_as rfl rfl ?_
 refine Reg.nil ?_
 refine cw_seq (cw_seq (cw_regF ?_))
 refine s_mv rfl rfl ?_
 refine s_neq rfl rfl rfl ?_
 refine Reg.nil ?_
 refine cw_cond rfl (fun hc31 => ?_) (fun hc31 => ?_)
 ·replace h := cdT hc31 h
  refine cw_seq (cw_regF ?_)
  refine s_mv rfl rfl ?_
  refine s_as rfl rfl ?_
  refine s_as rfl rfl ?_
  refine s_as rfl rfl ?_
  refine Reg.nil ?_
  refine cw_ret ?_
  obtain ⟨rfl, rfl, rfl⟩ := inj3 h
  refine fin3 Try.results14 rfl rfl rfl ?_
  exact ⟨rfl, (by decide), r20, hI29.kp⟩
 ·replace h := cdF hc31 h
  refine cw_skip (cw_seq (cw_regF ?_))
  refine s_lda rfl hC30.cells Try.isAgg80 rfl Try.sizeOf80 rfl ?_
  refine s_mv rfl rfl ?_
  obtain ⟨z32, hz33, h⟩ := bnd h
  refine s_call rfl Try.call32 rfl ?_
  refine (C_score_works_score hI29.mlt r12 (hf14.adv (x25.trans (x28.trans (Hp.eraseA (σ := [rowR 80 b22 [Value.int .i64 z7.model.traits, v13, v15, Value.int .i64 z7.model.need, v18]]) 0)))) (hf16.adv (x25.trans (x28.trans (Hp.eraseA (σ := [rowR 80 b22 [Value.int .i64 z7.model.traits, v13, v15, Value.int .i64 z7.model.need, v18]]) 0)))) r17 (hf19.adv (x25.trans (x28.trans (Hp.eraseA (σ := [rowR 80 b22 [Value.int .i64 z7.model.traits, v13, v15, Value.int .i64 z7.model.need, v18]]) 0)))) (f_x_0.adv hI29.adv) hz33).mono ?_
  rintro _ w34 ⟨rfl, r36, e35⟩
  refine ⟨_, rfl, ?_⟩
  have hI37 := hI29.ext e35
  refine s_as rfl rfl ?_
  refine Reg.nil ?_
  refine cw_seq (cw_regF ?_)
  refine s_mv rfl rfl ?_
  refine s_lda rfl (hC30.adv (Adv.of_ext e35)).cells Try.isAgg80 rfl Try.sizeOf80 rfl ?_
  refine s_mv rfl rfl ?_
  obtain ⟨z38, hz39, h⟩ := bnd h
  refine s_call rfl Try.call33 rfl ?_
  refine (C_score_works_enough hI37.mlt r12 (hf14.adv (x25.trans (x28.trans ((Hp.eraseA (σ := [rowR 80 b22 [Value.int .i64 z7.model.traits, v13, v15, Value.int .i64 z7.model.need, v18]]) 0).trans (Adv.of_ext e35))))) (hf16.adv (x25.trans (x28.trans ((Hp.eraseA (σ := [rowR 80 b22 [Value.int .i64 z7.model.traits, v13, v15, Value.int .i64 z7.model.need, v18]]) 0).trans (Adv.of_ext e35))))) r17 (hf19.adv (x25.trans (x28.trans ((Hp.eraseA (σ := [rowR 80 b22 [Value.int .i64 z7.model.traits, v13, v15, Value.int .i64 z7.model.need, v18]]) 0).trans (Adv.of_ext e35))))) r36 hz39).mono ?_
  rintro _ w40 ⟨rfl, e41⟩
  refine ⟨_, rfl, ?_⟩
  have hI42 := hI37.ext e41
  refine s_as rfl rfl ?_
  refine s_as rfl rfl ?_
  refine s_as rfl rfl ?_
  refine Reg.nil ?_
  refine cw_ret ?_
  obtain ⟨rfl, rfl, rfl⟩ := inj3 h
  refine fin3 Try.results14 rfl rfl rfl ?_
  exact ⟨rfl, r36, (by decide), hI42.kp⟩
noncomputable def P.score_Points (m : Model) (x : (List Int)) : Option ((List Int) × Int) :=
 Option.bind (P.score_asked (Model.mk m.traits m.cards m.trees m.need) x) fun (z7, z8) => cond (!decide (z8 = 0)) (some ([], z8)) (Option.bind (loopM (S := (List Int) × Int) (R := ((List Int))) (fun (x32, x33) => cond (decide (x33 < (z7.parts.length : Int))) (Option.bind (ixo z7.parts x33) fun y35 => Option.bind (P.M87_points y35 x) fun z43 => Option.bind (appo 8 x32 ([z43] : List Int)) fun l54 => Option.bind (chk .i64 (x33 + 1)) fun n59 => some (.inl (l54, n59))) (some (.inr x32))) ([], 0)) fun x60 => some (x60, 0))
theorem C_score_Points {M : List Nat} {w : World} (hM : MLt M w) {m : Model} {v_m_1 : Value} {v_m_2 : Value} (f_m_0 : InK .i64 m.traits) (f_m_1 : RdS CardE M w v_m_1 m.cards) (f_m_2 : RdS TreeE M w v_m_2 m.trees) (f_m_3 : InK .i64 m.need) {x : (List Int)} {v_x_0 : Value} (f_x_0 : RdS (intE .i64) M w v_x_0 x) {r0 : (List Int)} {r1 : Int} (h : P.score_Points m x = some (r0, r1)) :
  Calls Try.prog 16 (List.toArray [Value.agg (List.toArray [Value.int .i64 m.traits, v_m_1, v_m_2, Value.int .i64 m.need]), v_x_0]) w fun e w' => ∃ v0_0 : Value, e = .returned (Value.tuple (List.toArray [v0_0, Value.int .i64 r1])) ∧ (Own (intE .i64) 3 0 M w' v0_0 r0 ∧ ∀ b ∈ ob v0_0, w.heap.size ≤ b) ∧ InK .i64 r1 ∧ Ext w w' := by
 have hI := Hp.start (Mu := []) hM
 refine calls_cw Try.func16 rfl Try.ntmps16 rfl ?_
 refine cw_seq (cw_regF ?_)
 refine y_box hI rfl rfl rfl ?_
 intro b1 w2 hI3 x4
 have hC6 := hI3.freezeRow 0 rfl
 have hI5 := hI3.erase 0
 refine s_as rfl rfl ?_
 refine s_as rfl rfl ?_
 refine Reg.nil ?_
 refine cw_seq (cw_regF ?_)
 refine s_lda rfl hC6.cells Try.isAgg25 rfl Try.sizeOf25 rfl ?_
 refine s_mv rfl rfl ?_
 obtain ⟨⟨z7, z8⟩, hz9, h⟩ := bnd h
 refine s_call rfl Try.call31 rfl ?_
 refine (C_score_asked hI5.mlt f_m_0 (f_m_1.adv hI5.adv) (f_m_2.adv hI5.adv) f_m_3 (f_x_0.adv hI5.adv) hz9).mono ?_
 rintro _ w10 ⟨v13, v15, v18, rfl, r12, hf14, hf16, r17, hf19, r20, e11⟩
 refine ⟨_, rfl, ?_⟩
 have hI21 := hI5.ext e11
 refine s_mv rfl rfl ?_
 refine s_xt rfl rfl rfl ?_
 refine s_xt rfl rfl rfl ?_
 refine y_al hI21 Try.zeroValue80 rfl rfl ?_
 intro b22 w23 hI24 x25
 refine y_st 0 hI24 rfl rfl rfl rfl Try.sizeOf80 rfl rfl (one1 rfl (one1 (RdS.oneC hf14) (one1 (RdS.oneC hf16) (one1 rfl (one1 (RdS.oneC hf19) one0))))) ?_
 intro w26 hI27 x28
 have hC30 := hI27.freezeRow 0 rfl
 have hI29 := hI27.erase 0
 refine s_as rfl rfl ?_
 refine Reg.nil ?_
 refine cw_seq (cw_seq (cw_regF ?_))
 refine s_mv rfl rfl ?_
 refine s_neq rfl rfl rfl ?_
 refine Reg.nil ?_
 refine cw_cond rfl (fun hc31 => ?_) (fun hc31 => ?_)
 ·replace h := cdT hc31 h
  refine cw_seq (cw_regF ?_)
  refine s_mv rfl rfl ?_
  refine s_as rfl rfl ?_
  refine s_as rfl rfl ?_
  refine Reg.nil ?_
  refine cw_ret ?_
  obtain ⟨rfl, rfl⟩ := inj2 h
  refine fin2 Try.results16 rfl rfl ?_
  exact ⟨_, rfl, ⟨Own.nil _ _ _ _ _, fun _ hb => by cases hb⟩, r20, hI29.kp⟩
 ·replace h := cdF hc31 h
  refine cw_skip (cw_seq (cw_regF ?_))
  refine s_as rfl rfl ?_
  refine Reg.nil ?_
  refine cw_seq (cw_seq (cw_regF ?_))
  refine s_fa rfl Try.underlying80 rfl Try.sizeOf78 rfl ?_
  refine s_ld rfl (hC30.cells.at 4 rfl) Try.isAgg78 rfl ?_
  refine s_len rfl (hf19.adv (x25.trans (x28.trans (Hp.eraseA (σ := [rowR 80 b22 [Value.int .i64 z7.model.traits, v13, v15, Value.int .i64 z7.model.need, v18]]) 0)))) Try.underlying78 rfl ?_
  refine s_mv rfl rfl ?_
  refine Reg.nil ?_
  obtain ⟨j32, h33, h⟩ := bnd h
  refine cw_sub (L := [(1, _), (8, _), (21, _), (22, _), (23, _)]) (Sub.cons rfl (Sub.cons rfl (Sub.cons rfl (Sub.cons rfl (Sub.cons rfl (Sub.nil _)))))) ?_
  refine cw_unitD 5 (ι := (List Int) × Value) (fun ⟨x34, v35⟩ => [(8, v35)]) (fun ⟨x34, v35⟩ => fun w36 => Hp w [] M [ownR [] (intE .i64) 3 v35 x34] w36 ∧ Adv (mm [] M) (mm [ownR [] (intE .i64) 3 v35 x34] M) w26 w36 ∧ x34 = j32) ?_ ?_
  ·skip
   refine cw_block ?_
   refine cw_sub (L := [(8, _), (23, _), (1, _), (21, _), (22, _)]) (Sub.cons rfl (Sub.cons rfl (Sub.cons rfl (Sub.cons rfl (Sub.cons rfl (Sub.nil _)))))) ?_
   have hI46 := hI29.addNil (intE .i64) 3
   refine cw_loopM 2 (ι := (List Int) × Int × Value) _ (fun ⟨x39, x41, v40⟩ => [(8, v40), (23, Value.int .i64 x41)]) (fun ⟨x39, x41, v40⟩ => (x39, x41)) (fun ⟨x39, x41, v40⟩ => fun w43 => Hp w [] M [ownR [] (intE .i64) 3 v40 x39] w43 ∧ Adv (mm [] M) (mm [ownR [] (intE .i64) 3 v40 x39] M) w26 w43 ∧ InK .i64 x41) (([] : List Int), 0, (Value.slice none 0 0)) h33 ⟨hI46, (Hp.addNilA (σ := []) (intE .i64) 3), (by decide)⟩ (Sub.cons rfl (Sub.cons rfl (Sub.cons rfl (Sub.cons rfl (Sub.cons rfl (Sub.nil _)))))) ?_
   rintro ⟨x39, x41, v40⟩ w43 ⟨hI44, hA45, r42⟩ y47 h48 hR49
   refine cw_seq (cw_regF ?_)
   refine s_lss rfl rfl rfl ?_
   refine Reg.nil ?_
   refine cw_seq ?_
   refine cw_cond rfl (fun hc50 => ?_) (fun hc50 => ?_)
   ·replace h48 := cdT hc50 h48
    refine cw_skip ?_
    refine cw_seq ?_
    refine cw_block ?_
    refine cw_seq (cw_regF ?_)
    obtain ⟨y51, hy51, h48⟩ := bnd h48
    refine p_ia rfl rfl (hf19.adv (x25.trans (x28.trans ((Hp.eraseA (σ := [rowR 80 b22 [Value.int .i64 z7.model.traits, v13, v15, Value.int .i64 z7.model.need, v18]]) 0).trans hA45)))) hy51 Try.underlying78 Try.sizeOf87 rfl ?_
    intro b52 o53 cs54 hR55 hC56
    obtain ⟨v57, rfl, hf58⟩ := I87E_one hR55
    refine s_ld rfl (hC56.cells.at 0 rfl) Try.isAgg87 rfl ?_
    refine s_as rfl rfl ?_
    refine Reg.nil ?_
    refine cw_regF ?_
    refine s_mv rfl rfl ?_
    refine s_mv rfl rfl ?_
    refine s_mv rfl rfl ?_
    obtain ⟨z59, hz59, h48⟩ := bnd h48
    refine s_invD rfl rfl rfl ?_
    refine (C_M87_points (fun _ _ => by kernel_rfl) (fun _ _ => by kernel_rfl) hI44.mlt hf58 (f_x_0.adv hI44.adv) hz59).mono ?_
    rintro _ w60 ⟨rfl, r62, e61⟩
    refine ⟨_, rfl, ?_⟩
    have hI63 := hI44.ext e61
    refine y_bs (E := (intE .i64)) (xs := [z59]) sl26 hI63 rfl rfl (Cls.cons rfl Cls.nil) (Chs.cons ⟨rfl, r62⟩ Chs.nil) rfl rfl ?_
    intro v64 w65 hI66 x67
    have hf68 := hI66.freeze 0 rfl
    have hI69 := hI66.erase 0
    obtain ⟨l70, hl70, h48⟩ := bnd h48
    obtain ⟨hbl70, el70⟩ := appo_out hl70
    refine y_app 0 sl26 hI69 rfl rfl rfl hf68 hbl70 rfl ?_
    rw [← el70]
    intro v71 w72 hI73 x74
    refine s_as rfl rfl ?_
    refine Reg.nil ?_
    refine cw_regF ?_
    obtain ⟨n75, hn75, h48⟩ := bnd h48
    replace hn75 := chk_out hn75
    refine p_add rfl rfl rfl hn75 ?_
    refine s_mv rfl rfl ?_
    refine Reg.nil ?_
    obtain rfl := Option.some.inj h48
    refine ⟨rfl, (l70, n75, v71), ⟨⟨hI73, (hA45.trans ((Adv.of_ext e61).trans (x67.trans ((Hp.eraseA (σ := [ownR [] (intE .i64) 3 v64 ([z59] : List Int), ownR [] (intE .i64) 3 v40 x39]) 0).trans x74)))), hn75.2⟩, rfl⟩, Sub.cons rfl (Sub.cons rfl (Sub.cons rfl (Sub.cons rfl (Sub.cons rfl (Sub.nil _)))))⟩
   ·replace h48 := cdF hc50 h48
    refine cw_exit ?_
    refine exB_same ?_
    obtain rfl := Option.some.inj h48
    obtain rfl := hR49 _ rfl
    refine ⟨rfl, (x39, v40), ⟨hI44, hA45, rfl⟩, Sub.cons rfl (Sub.nil _)⟩
  ·skip
   rintro ⟨x34, v35⟩ w36 ⟨hI37, hA38, rfl⟩
   refine cw_seq (cw_regF ?_)
   refine s_mv rfl rfl ?_
   refine s_as rfl rfl ?_
   refine s_as rfl rfl ?_
   refine Reg.nil ?_
   refine cw_ret ?_
   obtain ⟨rfl, rfl⟩ := inj2 h
   refine fin2 Try.results16 rfl rfl ?_
   exact ⟨_, rfl, (hI37.ownOut 0 rfl), (by decide), hI37.kp⟩
end Go.Proofs.Ytecmlmngcnionaa
namespace Go.Sx
open Go Go.RowKit
def openE {α : Type} (E : Enc α) : Enc (α ⊕ List Value) where
  n := E.n
  pos := E.pos
  R := fun M w cs x => match x with
    | .inl a => E.R M w cs a
    | .inr ds => cs = ds ∧ ds.length = E.n ∧ ∀ u ∈ ds, u.oneCell' = true
  len := fun {M w cs x} h => by
    cases x with
    | inl a => exact E.len h
    | inr ds => obtain ⟨rfl, h, _⟩ := h; exact h
  kp := fun {M w w' cs x} hk h => by
    cases x with
    | inl a => exact E.kp hk h
    | inr ds => exact h
  mon := fun {M M' w cs x} hm h => by
    cases x with
    | inl a => exact E.mon hm h
    | inr ds => exact h
  one := fun {M w cs x} h u hu => by
    cases x with
    | inl a => exact E.one h u hu
    | inr ds => obtain ⟨rfl, _, h⟩ := h; exact h u hu
def opn {α : Type} (xs : List α) (j : Int) (ds : List Value) : List (α ⊕ List Value) := (xs.map Sum.inl).set j.toNat (.inr ds)
theorem opn_len {α : Type} (xs : List α) (j : Int) (ds : List Value) : (opn xs j ds).length = xs.length := by simp [opn]
theorem Chunks.inl {α : Type} {E : Enc α} {M : List Nat} {w : World} : ∀ {cs : List Value} {xs : List α}, Chunks E M w cs xs → Chunks (openE E) M w cs (xs.map Sum.inl)
  | _, [], h => h
  | _, _ :: _, ⟨c, rest, h, hR, hr⟩ => ⟨c, rest, h, hR, Chunks.inl hr⟩
theorem Chunks.outl {α : Type} {E : Enc α} {M : List Nat} {w : World} : ∀ {cs : List Value} {xs : List α}, Chunks (openE E) M w cs (xs.map Sum.inl) → Chunks E M w cs xs
  | _, [], h => h
  | _, _ :: _, ⟨c, rest, h, hR, hr⟩ => ⟨c, rest, h, hR, Chunks.outl hr⟩
theorem Chunks.shut {α : Type} {E : Enc α} {M : List Nat} {w : World} {ds : List Value} {z : α} (hz : E.R M w ds z) : ∀ {cs : List Value} {xs : List α} (j : Nat), Chunks (openE E) M w cs ((xs.map Sum.inl).set j (.inr ds)) → Chunks E M w cs (xs.set j z)
  | _, [], _, h => h
  | _, x :: xs, 0, ⟨c, rest, h, hR, hr⟩ => by
    obtain ⟨rfl, _, _⟩ := hR
    exact ⟨_, rest, h, hz, Chunks.outl hr⟩
  | _, x :: xs, j + 1, ⟨c, rest, h, hR, hr⟩ => ⟨c, rest, h, hR, Chunks.shut hz j hr⟩
theorem Own.shut {α : Type} {E : Enc α} {e Bb : Nat} {M : List Nat} {w : World} {v : Value} {xs : List α} {j : Int} {ds : List Value} {z : α} (hz : E.R (ob v ++ M) w ds z) (h : Own (openE E) e Bb M w v (opn xs j ds)) : Own E e Bb M w v (xs.set j.toNat z) := by
  rcases h with ⟨a, rfl, hx⟩ | ⟨g, cap, cur, rfl, h1, h2, h3, h4, h5, h6⟩
  · refine .inl ⟨a, rfl, ?_⟩
    have := congrArg List.length hx
    rw [opn_len] at this
    have hx0 : xs = [] := List.eq_nil_of_length_eq_zero (by simpa using this)
    subst hx0; rfl
  · rw [opn_len] at h3 h6
    refine .inr ⟨g, cap, cur, by rw [opn_len, List.length_set], h1, h2, by rw [List.length_set]; exact h3, h4, h5, ?_⟩
    rw [List.length_set]
    exact Chunks.shut hz _ h6
theorem set_set {σ : List Res} {i : Nat} {r r' : Res} : (σ.set i r).set i r' = σ.set i r' := List.set_set ..
section
variable {P : Program} {N : Nat} {ops : Array Oper} {q : Md} {rest : List Oper} {ds : List Deferred} {L : Env} {w w0 : World} {A B : Out} {X : Nat → Out} {Z : List PanicEntry → Out} {d : Nat} {ty : TypeId} {pos : String} {af : Array Edge} {Mu M : List Nat} {σ : List Res}
/-- The address of the open element. -/
theorem y_iaOpen (i : Nat) {α : Type} {E : Enc α} {e' t e : TypeId} {x y : Operand} {v : Value} {xs : List α} {k : IntKind} {j : Int} {z : α} {cs : List Value} (hI : Hp w0 Mu M σ w) (hi : σ[i]? = some (ownR [] (openE E) e' v (opn xs j cs)))
    (hx : ev L x = some v) (hy : ev L y = some (.int k j)) (hz : ixo xs j = some z) (ht : P.underlying t = some (.slice e)) (hs : ∀ w, (sizeOf e).run P w = .ok E.n w) (hN : Nat.blt d N = true)
    (h : ∀ g, ob v = [g] → Cells w g (j.toNat * E.n) cs → Reg P N ops q rest ds ((d, .pointer (some ⟨g, j.toNat * E.n, none⟩)) :: L) w A B X Z) :
    Reg P N ops q (⟨some d, .indexAddr t x y, ty, pos, af, none⟩ :: rest) ds L w A B X Z := by
  obtain ⟨h0, hj, hzz⟩ := ixo_out hz
  refine y_ia i (E := openE E) (z := .inr cs) hI hi hx hy ?_ ht hs hN fun g cs' hg hR hC => ?_
  · have hjn : j.toNat < xs.length := by omega
    exact ixo_some h0 (by simp [opn, hjn])
  · obtain ⟨rfl, _⟩ := hR
    exact h g hg hC
theorem Hp.shut (h : Hp w0 Mu M σ w) (i : Nat) {α : Type} {E : Enc α} {e : TypeId} {v : Value} {xs : List α} {j : Int} {cs : List Value} {z : α} (hi : σ[i]? = some (ownR [] (openE E) e v (opn xs j cs))) (hR : E.R (mm σ M) w cs z) : Hp w0 Mu M (σ.set i (ownR [] E e v (xs.set j.toNat z))) w :=
  h.upd i hi (Kp.refl _ _) (fun b hb => .inl hb) rfl fun M' hM' => ((h.ownAt i hi).shut (E.mon (fun b hb => .inl ((List.mem_append.1 hb).elim (h.ownSub i hi b) id)) hR)).mon hM'
theorem Hp.shutA (h : Hp w0 Mu M σ w) (i : Nat) {α : Type} {E : Enc α} {e : TypeId} {v : Value} {xs : List α} {j : Int} {cs : List Value} {z : α} (hi : σ[i]? = some (ownR [] (openE E) e v (opn xs j cs))) : Adv (mm σ M) (mm (σ.set i (ownR [] E e v (xs.set j.toNat z))) M) w w :=
  h.updA (r' := ownR [] E e v (xs.set j.toNat z)) i hi (Kp.refl _ _) fun b hb => .inl hb
end
end Go.Sx
set_option maxRecDepth 20000
namespace Go.Proofs.Ytecmlmngcnionaa
open Go Go.Sx
namespace S
theorem p_ints (a b : List Int) (h : a.length ≤ 9223372036854775806) : P.ref06_ints a b = some (decide (a = b)) := by
  unfold P.ref06_ints
  by_cases hl : (a.length : Int) = b.length
  · simp only [hl, decide_true, notT, condF]
    have hlen : a.length = b.length := by omega
    rw [← hl]
    rw [loop_any a (fun y i => !decide (b[i]? = some y)) (.inr false) (.inl ()) (fun i y hy => by
      have hi := get_lt hy
      obtain ⟨z, hb⟩ : ∃ z, b[i]? = some z := ⟨b[i]'(by omega), List.getElem?_eq_getElem (by omega)⟩
      simp only [ixo_at hy, ixo_at hb, lt_cast hi, chk_nat (i := i) (by omega), condT, bindS, hb]
      by_cases e : y = z
      · subst e; simp
      · have e' : ¬ z = y := fun h => e h.symm
        simp [e, e']) (by simp)]
    have : (a.zipIdx.any fun p => !decide (b[p.2]? = some p.1)) = !decide (a = b) := by
      rw [Bool.eq_iff_iff]
      simp only [List.any_eq_true, Bool.not_eq_true', decide_eq_false_iff_not]
      constructor
      · rintro ⟨p, hp, hne⟩ rfl
        exact hne (List.mem_zipIdx_iff_getElem?.1 hp)
      · intro hne
        refine Classical.byContradiction fun hall => hne ?_
        apply List.ext_getElem?
        intro i
        rcases Nat.lt_or_ge i a.length with hi | hi
        · have hy := List.getElem?_eq_getElem hi
          rw [hy]
          exact Eq.symm (Classical.byContradiction fun h9 => hall ⟨(a[i], i), List.mem_zipIdx_iff_getElem?.2 hy, h9⟩)
        · rw [List.getElem?_eq_none hi, List.getElem?_eq_none (by omega)]
    rw [this]
    by_cases e : a = b <;> simp [e]
  · have : a ≠ b := fun e => hl (by rw [e])
    simp [hl, this]
theorem p_same (a b : List Int) (h : a.length ≤ 9223372036854775806) : P.ref01_SameInts a b = some (decide (a = b)) := p_ints a b h
end S
end Go.Proofs.Ytecmlmngcnionaa
namespace Go.Proofs.Ytecmlmngcnionaa
open Go Go.Sx
namespace S
/-- What is neither great nor long. -/
structure Small (m : Model) : Prop where
  cards : m.cards.length ≤ 6
  trees : m.trees.length ≤ 6
  scales : ∀ c ∈ m.cards, c.scales.length ≤ 10
  cuts : ∀ c ∈ m.cards, ∀ s ∈ c.scales, s.cuts.length ≤ 10 ∧ s.points.length ≤ 12
  nodes : ∀ t ∈ m.trees, t.nodes.length ≤ 20
theorem small_of {m : Model} (h : great m = false) : Small m := by
  obtain ⟨h1, h2, h3, h4⟩ := great_iff.1 h
  refine ⟨h1, h2, fun c hc => ?_, fun c hc s hs => ?_, fun t ht => ?_⟩
  · obtain ⟨j, hj⟩ := List.getElem?_of_mem hc; exact (greatCard_iff.1 (h3 j c hj)).1
  · obtain ⟨j, hj⟩ := List.getElem?_of_mem hc
    obtain ⟨k, hk⟩ := List.getElem?_of_mem hs
    have := (greatCard_iff.1 (h3 j c hj)).2 k s hk
    simp only [greatScale, Bool.or_eq_false_iff, decide_eq_false_iff_not] at this
    omega
  · obtain ⟨j, hj⟩ := List.getElem?_of_mem ht
    have := h4 j t hj
    simp only [greatTree, decide_eq_false_iff_not] at this
    omega
end S
end Go.Proofs.Ytecmlmngcnionaa
namespace Go.Proofs.Ytecmlmngcnionaa
open Go Go.Sx
namespace S
theorem loop_inv2 {S R : Type} {body : S → Option (S ⊕ R)} (I : S → Prop) (μ : S → Nat) {Q : R → Prop} (step : ∀ s, I s → (∃ s', body s = some (.inl s') ∧ I s' ∧ μ s' < μ s) ∨ (∃ r, body s = some (.inr r) ∧ Q r)) (s : S) (hs : I s) : ∃ r, loopM body s = some r ∧ Q r :=
  loopM_inv (Q := Q) I μ (fun s hs => by
    rcases step s hs with ⟨s', h, h1, h2⟩ | ⟨r, h, h1⟩
    · exact ⟨_, h, (fun x hx => by cases hx; exact ⟨h1, h2⟩), (fun x hx => by cases hx)⟩
    · exact ⟨_, h, (fun x hx => by cases hx), (fun x hx => by cases hx; exact h1)⟩) s hs
theorem find_idx {α : Type} (p : α → Bool) : ∀ (l : List α) (k : Nat), (((l.zipIdx k).findSome? fun q => if p q.1 then some (Sum.inr (q.2 : Int) : Unit ⊕ Int) else none).getD (.inl ())) = match l.findIdx? p with | some i => .inr ((i + k : Nat) : Int) | none => .inl ()
  | [], _ => by simp
  | a :: l, k => by
    rw [List.zipIdx_cons, List.findSome?_cons, List.findIdx?_cons]
    cases h : p a with
    | true => simp
    | false =>
      simp only [Bool.false_eq_true, if_false]
      rw [find_idx p l (k + 1)]
      cases l.findIdx? p with
      | none => rfl
      | some i => simp only [Option.map_some]; congr 2; omega
theorem idx_loop {α : Type} (l : List α) (f : α → Option Bool) (p : α → Bool) (hf : ∀ y ∈ l, f y = some (p y)) (hl : l.length ≤ 1000000) :
    (Option.bind (loopM (S := Int) (R := (Unit) ⊕ (Int)) (fun x1 => cond (decide (x1 < (l.length : Int))) (Option.bind (ixo l x1) fun y3 => Option.bind (f y3) fun z14 => cond z14 (some (.inr (.inr x1))) (Option.bind (chk .i64 (x1 + 1)) fun n20 => some (.inl n20))) (some (.inr (.inl ())))) 0) fun j21 => Sum.elim (fun _ => some (-1)) (fun r22 => some r22)  j21) = some (idx p l) := by
  have key : loopM (S := Int) (R := Unit ⊕ Int) (fun x1 => cond (decide (x1 < (l.length : Int))) (Option.bind (ixo l x1) fun y3 => Option.bind (f y3) fun z14 => cond z14 (some (.inr (.inr x1))) (Option.bind (chk .i64 (x1 + 1)) fun n20 => some (.inl n20))) (some (.inr (.inl ())))) 0 = some (((l.zipIdx 0).findSome? fun q => if p q.1 then some (Sum.inr (q.2 : Int) : Unit ⊕ Int) else none).getD (.inl ())) := loop_find (body := fun x1 => cond (decide (x1 < (l.length : Int))) (Option.bind (ixo l x1) fun y3 => Option.bind (f y3) fun z14 => cond z14 (some (.inr (.inr x1))) (Option.bind (chk .i64 (x1 + 1)) fun n20 => some (.inl n20))) (some (.inr (.inl ())))) l (fun i => (i : Int)) (fun i y => if p y then some (Sum.inr (i : Int) : Unit ⊕ Int) else none) (.inl ()) (fun i y hy => by
    have hi := get_lt hy
    simp only [lt_cast hi, condT, ixo_at hy, bindS, hf y (List.mem_of_getElem? hy), chk_nat (i := i) (by omega)]
    cases p y with
    | true => simp only [condT, if_true]
    | false => simp) (by simp only [not_lt_cast, condF])
  rw [key, find_idx p l 0, bindS]
  unfold idx
  cases l.findIdx? p <;> simp
theorem p_idx67 (l : List Int) (f : Int → Option Bool) (p : Int → Bool) (hf : ∀ y ∈ l, f y = some (p y)) (hl : l.length ≤ 1000000) : P.slices_IndexFunc_67 l f = some (idx p l) := by
  unfold P.slices_IndexFunc_67; exact idx_loop l f p hf hl
theorem p_idx134 (l : List Scale) (f : Scale → Option Bool) (p : Scale → Bool) (hf : ∀ y ∈ l, f y = some (p y)) (hl : l.length ≤ 1000000) : P.slices_IndexFunc_134 l f = some (idx p l) := by
  unfold P.slices_IndexFunc_134; exact idx_loop l f p hf hl
theorem p_idx66 (l : List I87) (f : I87 → Option Bool) (p : I87 → Bool) (hf : ∀ y ∈ l, f y = some (p y)) (hl : l.length ≤ 1000000) : P.slices_IndexFunc_66 l f = some (idx p l) := by
  unfold P.slices_IndexFunc_66; exact idx_loop l f p hf hl
theorem p_has56 (l : List Int) (f : Int → Option Bool) (p : Int → Bool) (hf : ∀ y ∈ l, f y = some (p y)) (hl : l.length ≤ 1000000) : P.slices_ContainsFunc_56 l f = some (l.any p) := by
  unfold P.slices_ContainsFunc_56; rw [p_idx67 l f p hf hl, bindS, ← idx_ge]
theorem p_has130 (l : List Scale) (f : Scale → Option Bool) (p : Scale → Bool) (hf : ∀ y ∈ l, f y = some (p y)) (hl : l.length ≤ 1000000) : P.slices_ContainsFunc_130 l f = some (l.any p) := by
  unfold P.slices_ContainsFunc_130; rw [p_idx134 l f p hf hl, bindS, ← idx_ge]
theorem p_has54 (l : List I87) (f : I87 → Option Bool) (p : I87 → Bool) (hf : ∀ y ∈ l, f y = some (p y)) (hl : l.length ≤ 1000000) : P.slices_ContainsFunc_54 l f = some (l.any p) := by
  unfold P.slices_ContainsFunc_54; rw [p_idx66 l f p hf hl, bindS, ← idx_ge]
theorem p_swithin (lo hi : Int) (l : List Int) (hl : l.length ≤ 1000000) : P.score_within lo hi l = some (l.all fun n => decide (lo ≤ n ∧ n ≤ hi)) := by
  unfold P.score_within
  rw [p_has56 l _ (fun n => !decide (lo ≤ n ∧ n ≤ hi)) (fun y _ => by
    unfold P.score_within_in1
    by_cases h : y < lo
    · have : ¬ (lo ≤ y ∧ y ≤ hi) := by omega
      simp [h, this]
    · by_cases h2 : hi < y
      · have : ¬ (lo ≤ y ∧ y ≤ hi) := by omega
        simp [h, h2, this]
      · have : lo ≤ y ∧ y ≤ hi := by omega
        simp [h, h2, this]) hl, bindS, List.all_eq_not_any_not]
theorem p_counts (l : List Int) (hl : l.length ≤ 1000000) : P.score_counts l = some (l.all pt) := by
  unfold P.score_counts; rw [p_swithin _ _ _ hl, bindS]; rfl
theorem p_less (x y : Int) : P.cmp_Less_102 x y = some (decide (x < y)) := by
  unfold P.cmp_Less_102 P.cmp_isNaN_89; simp
theorem p_sorted (x : List Int) (hl : x.length ≤ 1000000) : P.slices_IsSorted_135 x = some (sorted x) := by
  unfold P.slices_IsSorted_135
  rw [chk_i64 (by omega), bindS]
  obtain ⟨r, h1, h2⟩ := loop_inv2 (body := fun x2 => cond (decide (0 < x2)) (Option.bind (ixo x x2) fun y4 => Option.bind (chk .i64 (x2 - 1)) fun n11 => Option.bind (ixo x n11) fun y12 => Option.bind (P.cmp_Less_102 y4 y12) fun z19 => cond z19 (some (.inr (.inr false))) (Option.bind (chk .i64 (x2 - 1)) fun n27 => some (.inl n27))) (some (.inr (.inl ()))))
    (fun k : Int => k ≤ (x.length : Int) - 1 ∧ ∀ j : Nat, k ≤ (j : Int) → ∀ c d, x[j]? = some c → x[j + 1]? = some d → c ≤ d) (fun k => k.toNat) (Q := fun r : Unit ⊕ Bool => r = if sorted x then .inl () else .inr false)
    (fun k ⟨hk, hs⟩ => by
      by_cases h0 : 0 < k
      · have e0 : decide (0 < k) = true := decide_eq_true h0
        have ha : x[k.toNat]? = some x[k.toNat] := List.getElem?_eq_getElem (by omega)
        have hb : x[(k - 1).toNat]? = some x[(k - 1).toNat] := List.getElem?_eq_getElem (by omega)
        have hc : chk .i64 (k - 1) = some (k - 1) := chk_i64 (by omega)
        simp only [e0, condT, ixo_some (by omega) ha, ixo_some (show 0 ≤ k - 1 by omega) hb, hc, bindS, p_less]
        by_cases e : x[k.toNat] < x[(k - 1).toNat]
        · right
          refine ⟨.inr false, by simp only [decide_eq_true e, condT], ?_⟩
          rw [sorted_not ha hb h0 e]; rfl
        · left
          refine ⟨k - 1, by simp only [decide_eq_false e, condF], ⟨by omega, sorted_step hs h0 ha hb e⟩, by omega⟩
      · right
        have e0 : decide (0 < k) = false := decide_eq_false h0
        refine ⟨.inl (), by simp only [e0, condF], ?_⟩
        rw [sorted_all fun j c d hc hd => hs j (by omega) c d hc hd]; rfl) ((x.length : Int) - 1) ⟨by omega, fun j hj c d hc hd => by have := get_lt hd; omega⟩
  rw [h1, bindS, h2]
  cases sorted x <;> simp
theorem p_clone (l : List Int) (hl : l.length ≤ 1000000) : P.slices_Clone_58 l = some l := by
  unfold P.slices_Clone_58
  refine nilq_same (fun h => ?_) ?_
  · subst h; rfl
  · rw [condF, appo_ok (by simp; omega) (by simp; omega), bindS, List.nil_append]
/-- No two neighbours are equal. -/
def apart (x : List Int) : Prop := ∀ (j : Nat) (c d : Int), x[j]? = some c → x[j + 1]? = some d → c ≠ d
theorem p_compact (s : List Int) (hl : s.length ≤ 1000000) : ∃ l, P.slices_Compact_78 s = some l ∧ (l.length = s.length ↔ apart s) := by
  unfold P.slices_Compact_78
  by_cases h0 : s.length < 2
  · have e0 : decide ((s.length : Int) < 2) = true := decide_eq_true (by omega)
    refine ⟨s, by rw [e0, condT], ⟨fun _ j c d hc hd => ?_, fun _ => rfl⟩⟩
    have := get_lt hd
    omega
  · have e0 : decide ((s.length : Int) < 2) = false := decide_eq_false (by omega)
    rw [e0, condF]
    obtain ⟨r, h1, h2⟩ := loop_inv2 (body := (fun x2 => cond (decide (x2 < (s.length : Int))) (Option.bind (ixo s x2) fun y4 => Option.bind (chk .i64 (x2 - 1)) fun n11 => Option.bind (ixo s n11) fun y12 => cond (decide (y4 = y12)) (Option.bind (cutLo s x2) fun l23 => Option.bind (loopM (S := Int × Int × (List Int)) (R := (Int × (List Int))) (fun (x26, x27, x28) => Option.bind (cutLo x28 x2) fun l29 => cond (decide (x27 < (l29.length : Int))) (Option.bind (Option.bind (cutLo x28 x2) fun l31 => Option.bind (ixo l31 x27) fun y32 => Option.bind (chk .i64 (x27 - 1)) fun n40 => Option.bind (cutLo x28 x2) fun l41 => Option.bind (ixo l41 n40) fun y42 => Option.bind (cond (!decide (y32 = y42)) (Option.bind (cutLo x28 x2) fun l54 => Option.bind (ixo l54 x27) fun y55 => Option.bind (ixo x28 x26) fun y63 => Option.bind (seto x28 x26 y55) fun l70 => Option.bind (chk .i64 (x26 + 1)) fun n74 => some (n74, l70)) (some (x26, x28))) fun (x75, x76) => some (x75, x76)) fun (x77, x78) => Option.bind (chk .i64 (x27 + 1)) fun n79 => some (.inl (x77, n79, x78))) (some (.inr (x26, x28)))) (x2, 1, s)) fun (x80, x81) => Option.bind (cutLo x81 x80) fun l82 => Option.bind (cutHi (x81.take x80.toNat ++ List.replicate l82.length 0) x80) fun l88 => some (.inr (.inr l88))) (Option.bind (chk .i64 (x2 + 1)) fun n92 => some (.inl n92))) (some (.inr (.inl ())))))
      (fun k : Int => 1 ≤ k ∧ k ≤ s.length ∧ ∀ j : Nat, (j : Int) + 1 < k → ∀ c d, s[j]? = some c → s[j + 1]? = some d → c ≠ d) (fun k => s.length - k.toNat) (Q := fun r : Unit ⊕ List Int => (r = .inl () ∧ apart s) ∨ ∃ l, r = .inr l ∧ l.length < s.length ∧ ¬ apart s)
      (fun k ⟨hk1, hk2, hs⟩ => by
        by_cases hk : k < (s.length : Int)
        · have e1 : decide (k < (s.length : Int)) = true := decide_eq_true hk
          have ha : s[k.toNat]? = some s[k.toNat] := List.getElem?_eq_getElem (by omega)
          have hb : s[(k - 1).toNat]? = some s[(k - 1).toNat] := List.getElem?_eq_getElem (by omega)
          have hc : chk .i64 (k - 1) = some (k - 1) := chk_i64 (by omega)
          have hc2 : chk .i64 (k + 1) = some (k + 1) := chk_i64 (by omega)
          have hj : k.toNat = (k - 1).toNat + 1 := by omega
          simp only [e1, condT, ixo_some (show 0 ≤ k by omega) ha, ixo_some (show 0 ≤ k - 1 by omega) hb, hc, hc2, bindS]
          by_cases e : s[k.toNat] = s[(k - 1).toNat]
          · right
            have e2 : decide (s[k.toNat] = s[(k - 1).toNat]) = true := decide_eq_true e
            have hcut : ∀ l : List Int, l.length = s.length → cutLo l k = some (l.drop k.toNat) := fun l hl => by unfold cutLo; rw [if_pos ⟨by omega, by omega⟩]
            simp only [e2, condT, hcut s rfl, bindS]
            obtain ⟨⟨n, l⟩, g1, g2⟩ := loop_inv2 (body := (fun (x26, x27, x28) => Option.bind (cutLo x28 k) fun l29 => cond (decide (x27 < (l29.length : Int))) (Option.bind (Option.bind (cutLo x28 k) fun l31 => Option.bind (ixo l31 x27) fun y32 => Option.bind (chk .i64 (x27 - 1)) fun n40 => Option.bind (cutLo x28 k) fun l41 => Option.bind (ixo l41 n40) fun y42 => Option.bind (cond (!decide (y32 = y42)) (Option.bind (cutLo x28 k) fun l54 => Option.bind (ixo l54 x27) fun y55 => Option.bind (ixo x28 x26) fun y63 => Option.bind (seto x28 x26 y55) fun l70 => Option.bind (chk .i64 (x26 + 1)) fun n74 => some (n74, l70)) (some (x26, x28))) fun (x75, x76) => some (x75, x76)) fun (x77, x78) => Option.bind (chk .i64 (x27 + 1)) fun n79 => some (.inl (x77, n79, x78))) (some (.inr (x26, x28)))))
              (fun t : Int × Int × List Int => t.2.2.length = s.length ∧ k ≤ t.1 ∧ 1 ≤ t.2.1 ∧ t.2.1 ≤ s.length - k ∧ t.1 ≤ k + t.2.1 - 1) (fun t => s.length - t.2.1.toNat) (Q := fun r : Int × List Int => r.2.length = s.length ∧ k ≤ r.1 ∧ r.1 < s.length)
              (fun ⟨i, j, l⟩ ⟨q1, q2, q3, q4, q5⟩ => by
                simp only at q1 q2 q3 q4 q5
                have hdl : (l.drop k.toNat).length = s.length - k.toNat := by rw [List.length_drop, q1]
                simp only [hcut l q1, bindS]
                by_cases hj2 : j < ((l.drop k.toNat).length : Int)
                · have e3 : decide (j < ((l.drop k.toNat).length : Int)) = true := decide_eq_true hj2
                  have hx : (l.drop k.toNat)[j.toNat]? = some (l.drop k.toNat)[j.toNat] := List.getElem?_eq_getElem (by omega)
                  have hy : (l.drop k.toNat)[(j - 1).toNat]? = some (l.drop k.toNat)[(j - 1).toNat] := List.getElem?_eq_getElem (by omega)
                  have hz : l[i.toNat]? = some l[i.toNat] := List.getElem?_eq_getElem (by omega)
                  have hc3 : chk .i64 (j - 1) = some (j - 1) := chk_i64 (by omega)
                  have hc4 : chk .i64 (j + 1) = some (j + 1) := chk_i64 (by omega)
                  have hc5 : chk .i64 (i + 1) = some (i + 1) := chk_i64 (by omega)
                  have hset : ∀ z, seto l i z = some (l.set i.toNat z) := fun z => by unfold seto; rw [if_pos ⟨by omega, by omega⟩]
                  simp only [e3, condT, ixo_some (show 0 ≤ j by omega) hx, ixo_some (show 0 ≤ j - 1 by omega) hy, ixo_some (show 0 ≤ i by omega) hz, hc3, hc4, hc5, hset, bindS]
                  left
                  by_cases e4 : (l.drop k.toNat)[j.toNat] = (l.drop k.toNat)[(j - 1).toNat]
                  · have e5 := decide_eq_true e4
                    refine ⟨(i, j + 1, l), by simp only [e5, notT, condF, bindS], ?_, ?_⟩ <;> simp only <;> omega
                  · have e5 := decide_eq_false e4
                    refine ⟨(i + 1, j + 1, l.set i.toNat (l.drop k.toNat)[j.toNat]), by simp only [e5, notF, condT, bindS], ?_, ?_⟩ <;> simp only [List.length_set] <;> omega
                · have e3 : decide (j < ((l.drop k.toNat).length : Int)) = false := decide_eq_false hj2
                  right
                  exact ⟨(i, l), by simp only [e3, condF], q1, q2, by simp only; omega⟩) (k, 1, s) ⟨rfl, by simp only; omega, by simp only; omega, by simp only; omega, by simp only; omega⟩
            simp only at g2
            rw [g1]
            simp only [bindS]
            have hcl : cutLo l n = some (l.drop n.toNat) := by unfold cutLo; rw [if_pos ⟨by omega, by omega⟩]
            rw [hcl, bindS]
            have hlen : (l.take n.toNat ++ List.replicate (l.drop n.toNat).length (0 : Int)).length = s.length := by simp; omega
            have hch : cutHi (l.take n.toNat ++ List.replicate (l.drop n.toNat).length (0 : Int)) n = some ((l.take n.toNat ++ List.replicate (l.drop n.toNat).length (0 : Int)).take n.toNat) := by unfold cutHi; rw [if_pos ⟨by omega, by omega⟩]
            rw [hch, bindS]
            refine ⟨_, rfl, .inr ⟨_, rfl, ?_, fun hap => ?_⟩⟩
            · rw [List.length_take]; omega
            · have ha' : s[(k - 1).toNat + 1]? = some s[k.toNat] := by rw [← hj]; exact ha
              exact hap _ _ _ hb ha' e.symm
          · left
            have e2 : decide (s[k.toNat] = s[(k - 1).toNat]) = false := decide_eq_false e
            refine ⟨k + 1, by simp only [e2, condF], ⟨by omega, by omega, fun j hj2 c d hc hd => ?_⟩, by omega⟩
            by_cases h9 : (j : Int) + 1 < k
            · exact hs j h9 c d hc hd
            · have : j = (k - 1).toNat := by omega
              subst this
              rw [hb] at hc; rw [← hj, ha] at hd
              cases hc; cases hd
              exact fun h => e h.symm
        · have e1 : decide (k < (s.length : Int)) = false := decide_eq_false hk
          right
          refine ⟨.inl (), by simp only [e1, condF], .inl ⟨rfl, fun j c d hc hd => hs j ?_ c d hc hd⟩⟩
          have := get_lt hd
          omega) 1 ⟨by omega, by omega, fun j hj => by omega⟩
    rw [h1, bindS]
    rcases h2 with ⟨rfl, h2⟩ | ⟨l, rfl, h2, h3⟩
    · exact ⟨s, by rw [elimLS], ⟨fun _ => h2, fun _ => rfl⟩⟩
    · exact ⟨l, by rw [elimRS], ⟨fun h => by omega, fun h => absurd h h3⟩⟩
theorem p_measured (s : Scale) (hc : s.cuts.length ≤ 10) (hp : s.points.length ≤ 12) : P.score_measured s = some (scaleOk s) := by
  unfold P.score_measured
  by_cases h1 : 3 < s.cuts.length
  · have h1' : (3 : Int) < s.cuts.length := by omega
    have : scaleOk s = false := by simp [scaleOk]; omega
    simp [h1', this]
  · have h1' : decide ((3 : Int) < s.cuts.length) = false := decide_eq_false (by omega)
    have h1'' : s.cuts.length ≤ 3 := by omega
    simp only [h1', condF]
    rw [chk_i64 (by omega), bindS]
    by_cases h2 : (s.points.length : Int) = s.cuts.length + 1
    · have h2' : s.points.length = s.cuts.length + 1 := by omega
      rw [p_counts _ (by simp), p_counts _ (by omega), p_swithin _ _ _ (by omega)]
      have e2 : decide ((s.points.length : Int) = s.cuts.length + 1) = true := decide_eq_true h2
      simp only [e2, notT, condF, bindS, List.all_cons, List.all_nil, Bool.and_true]
      unfold scaleOk
      simp only [h1'', h2', decide_true, Bool.true_and]
      cases h3 : pt s.none_ with
      | false => simp only [notF, condT, bindS, Bool.false_and]
      | true =>
        simp only [notT, condF, Bool.true_and]
        cases h4 : s.points.all pt with
        | false => simp only [notF, condT, bindS, Bool.and_false]
        | true =>
          simp only [notT, condF, Bool.and_true]
          cases h5 : s.cuts.all (fun c => decide (1 ≤ c ∧ c ≤ 1000000)) with
          | false => simp only [notF, condT, bindS, Bool.false_and]
          | true =>
            simp only [notT, condF, bindS, Bool.true_and]
            rw [p_sorted _ (by omega), bindS]
            cases h6 : sorted s.cuts with
            | false =>
              simp only [condF, bindS]
              congr 1
              refine (Bool.eq_false_iff.2 fun hr => ?_).symm
              have := (sorted_iff s.cuts).2 fun j c d hc hd => Int.le_of_lt ((rising_iff _).1 hr j c d hc hd)
              rw [h6] at this; cases this
            | true =>
              rw [condT, p_clone _ (by omega), bindS]
              obtain ⟨l, g1, g2⟩ := p_compact s.cuts (by omega)
              rw [g1]
              simp only [bindS]
              congr 1
              rw [Bool.eq_iff_iff, decide_eq_true_eq]
              constructor
              · intro h
                have hap := g2.1 (by omega)
                exact (rising_iff _).2 fun j c d hc hd => by
                  have a := (sorted_iff s.cuts).1 h6 j c d hc hd
                  have b := hap j c d hc hd
                  omega
              · intro hr
                have := g2.2 fun j c d hc hd => by have := (rising_iff _).1 hr j c d hc hd; omega
                omega
    · have : scaleOk s = false := by
        simp only [scaleOk, Bool.and_eq_false_iff, decide_eq_false_iff_not]
        left; left; left; left; right; omega
      simp [h2, this]
end S
end Go.Proofs.Ytecmlmngcnionaa
namespace Go.Proofs.Ytecmlmngcnionaa
open Go Go.Sx
namespace S
theorem filter_len {l : List Int} {p : Int → Bool} {i : Nat} (hi : i ≤ l.length) (h1 : ∀ (j : Nat) (y : Int), l[j]? = some y → j < i → p y = true) (h2 : ∀ (j : Nat) (y : Int), l[j]? = some y → i ≤ j → p y = false) : (l.filter p).length = i := by
  have : l.filter p = l.take i := by
    conv => lhs; rw [← List.take_append_drop i l, List.filter_append]
    rw [List.filter_eq_self.2, List.filter_eq_nil_iff.2, List.append_nil]
    · intro y hy
      obtain ⟨j, hj⟩ := List.getElem?_of_mem hy
      rw [List.getElem?_drop] at hj
      rw [h2 (i + j) y hj (by omega)]; decide
    · intro y hy
      obtain ⟨j, hj⟩ := List.getElem?_of_mem hy
      rw [List.getElem?_take] at hj
      split at hj
      · exact h1 j y hj (by assumption)
      · cases hj
  rw [this, List.length_take]; omega
theorem rising_lt {l : List Int} (h : rising l = true) : ∀ (n j : Nat) (c d : Int), l[j]? = some c → l[j + n + 1]? = some d → c < d
  | 0, j, c, d, hc, hd => (rising_iff l).1 h j c d hc hd
  | n + 1, j, c, d, hc, hd => by
    have hl := get_lt hd
    have hm : l[j + n + 1]? = some l[j + n + 1] := List.getElem?_eq_getElem (by omega)
    have a := rising_lt h n j c _ hc hm
    have b := (rising_iff l).1 h (j + n + 1) _ d hm (by rw [show j + n + 1 + 1 = j + (n + 1) + 1 by omega]; exact hd)
    omega
theorem rising_le {l : List Int} (h : rising l = true) {j k : Nat} {c d : Int} (hjk : j ≤ k) (hc : l[j]? = some c) (hd : l[k]? = some d) : c ≤ d := by
  rcases Nat.lt_or_ge j k with h1 | h1
  · exact Int.le_of_lt (rising_lt h (k - j - 1) j c d hc (by rw [show j + (k - j - 1) + 1 = k by omega]; exact hd))
  · have : j = k := by omega
    subst this; rw [hc] at hd; cases hd; exact Int.le_refl _
theorem half {a : Int} (h : 0 ≤ a) : shrO a 1 IntKind.u64.bits = some (a / 2) := by
  unfold shrO
  rw [if_pos (by omega)]
  show some (a.fdiv 2) = _
  rw [Int.fdiv_eq_ediv_of_nonneg _ (by omega)]
theorem p_search (l : List Int) (t : Int) (hl : l.length ≤ 1000000) (hr : rising l = true) : ∃ i b, P.slices_BinarySearch_129 l t = some (i, b) ∧ 0 ≤ i ∧ i ≤ (l.length : Int) ∧ (if b = true then i + 1 else i) = ((l.filter fun c => decide (c ≤ t)).length : Int) := by
  unfold P.slices_BinarySearch_129
  obtain ⟨i, h1, h0, h2, h3, h4⟩ := loop_inv2 (body := (fun (x1, x2) => cond (decide (x1 < x2)) (Option.bind (Option.bind (chk .i64 (x1 + x2)) fun n4 => Option.bind (chk .u64 n4) fun n5 => Option.bind (shrO n5 1 IntKind.u64.bits) fun n6 => Option.bind (chk .i64 n6) fun n7 => Option.bind (ixo l n7) fun y8 => Option.bind (P.cmp_Less_102 y8 t) fun z15 => Option.bind (cond z15 (Option.bind (chk .i64 (n7 + 1)) fun n21 => some (n21, x2)) (some (x1, n7))) fun (x22, x23) => some (x22, x23)) fun (x24, x25) => some (.inl (x24, x25))) (some (.inr x1))))
    (fun s : Int × Int => 0 ≤ s.1 ∧ s.1 ≤ s.2 ∧ s.2 ≤ (l.length : Int) ∧ (∀ (k : Nat) (y : Int), l[k]? = some y → (k : Int) < s.1 → y < t) ∧ (∀ (k : Nat) (y : Int), l[k]? = some y → s.2 ≤ (k : Int) → t ≤ y)) (fun s => (s.2 - s.1).toNat)
    (Q := fun i : Int => 0 ≤ i ∧ i ≤ (l.length : Int) ∧ (∀ (k : Nat) (y : Int), l[k]? = some y → (k : Int) < i → y < t) ∧ (∀ (k : Nat) (y : Int), l[k]? = some y → i ≤ (k : Int) → t ≤ y))
    (fun ⟨i, j⟩ ⟨q1, q2, q3, q4, q5⟩ => by
      simp only at q1 q2 q3 q4 q5
      by_cases e : i < j
      · left
        have e1 := decide_eq_true e
        have hc1 : chk .i64 (i + j) = some (i + j) := chk_i64 (by omega)
        have hc2 : chk .u64 (i + j) = some (i + j) := chk_in (by show (0 : Int) ≤ i + j ∧ i + j ≤ 18446744073709551615; omega)
        have hc3 : chk .i64 ((i + j) / 2) = some ((i + j) / 2) := chk_i64 (by omega)
        have hc4 : chk .i64 ((i + j) / 2 + 1) = some ((i + j) / 2 + 1) := chk_i64 (by omega)
        have hy : l[((i + j) / 2).toNat]? = some l[((i + j) / 2).toNat] := List.getElem?_eq_getElem (by omega)
        simp only [e1, condT, hc1, hc2, hc3, hc4, half (show 0 ≤ i + j by omega), ixo_some (show 0 ≤ (i + j) / 2 by omega) hy, bindS, p_less]
        by_cases e2 : l[((i + j) / 2).toNat] < t
        · refine ⟨((i + j) / 2 + 1, j), by simp only [decide_eq_true e2, condT, bindS], ⟨by simp only; omega, by simp only; omega, q3, fun k y hk hlt => ?_, q5⟩, by simp only; omega⟩
          simp only at hlt
          have := rising_le hr (show k ≤ ((i + j) / 2).toNat by omega) hk hy
          omega
        · refine ⟨(i, (i + j) / 2), by simp only [decide_eq_false e2, condF, bindS], ⟨q1, by simp only; omega, by simp only; omega, q4, fun k y hk hlt => ?_⟩, by simp only; omega⟩
          simp only at hlt
          have := rising_le hr (show ((i + j) / 2).toNat ≤ k by omega) hy hk
          omega
      · right
        have e1 := decide_eq_false e
        exact ⟨i, by simp only [e1, condF], q1, by omega, q4, fun k y hk h => q5 k y hk (by omega)⟩) (0, (l.length : Int)) ⟨by simp only; omega, by simp only; omega, by simp only; omega, fun k y hk h => by simp only at h; omega, fun k y hk h => by simp only at h; have := get_lt hk; omega⟩
  rw [h1, bindS]
  have hrest : ∀ y, P.slices_isNaN_133 y = some false := fun y => by unfold P.slices_isNaN_133; simp
  by_cases e : i < (l.length : Int)
  · have e1 := decide_eq_true e
    have hy : l[i.toNat]? = some l[i.toNat] := List.getElem?_eq_getElem (by omega)
    have hle := h4 _ _ hy (by omega)
    simp only [e1, condT, ixo_some h0 hy, bindS, hrest, condF]
    by_cases e2 : l[i.toNat] = t
    · have e3 := decide_eq_true e2
      refine ⟨i, true, by simp only [e3, condT, bindS], h0, h2, ?_⟩
      have := filter_len (l := l) (p := fun c => decide (c ≤ t)) (i := i.toNat + 1) (by omega) (fun j y hj hlt => decide_eq_true (by
        have := rising_le hr (show j ≤ i.toNat by omega) hj hy
        omega)) (fun j y hj hge => decide_eq_false (by
        have := rising_lt hr (j - i.toNat - 1) i.toNat _ y hy (by rw [show i.toNat + (j - i.toNat - 1) + 1 = j by omega]; exact hj)
        omega))
      rw [if_pos rfl]; omega
    · have e3 := decide_eq_false e2
      refine ⟨i, false, by simp only [e3, condF, bindS], h0, h2, ?_⟩
      have := filter_len (l := l) (p := fun c => decide (c ≤ t)) (i := i.toNat) (by omega) (fun j y hj hlt => decide_eq_true (by
        have := h3 j y hj (by omega)
        omega)) (fun j y hj hge => decide_eq_false (by
        have := rising_le hr (show i.toNat ≤ j by omega) hy hj
        omega))
      rw [if_neg (by decide)]; omega
  · have e1 := decide_eq_false e
    refine ⟨i, false, by simp only [e1, condF, bindS], h0, h2, ?_⟩
    have := filter_len (l := l) (p := fun c => decide (c ≤ t)) (i := i.toNat) (by omega) (fun j y hj hlt => decide_eq_true (by
      have := h3 j y hj (by omega)
      omega)) (fun j y hj hge => by have := get_lt hj; omega)
    rw [if_neg (by decide)]; omega
theorem p_lookup {β : Type} (s : Scale) (v : Int) (hs : scaleOk s = true) (hv : v ≠ -1) (K : Int → Option β) : (Option.bind (P.slices_BinarySearch_129 s.cuts v) fun (z46, z47) => Option.bind (Option.bind (cond z47 (Option.bind (chk .i64 (z46 + 1)) fun n56 => some n56) (some z46)) fun x57 => some x57) fun x58 => Option.bind (ixo s.points x58) K) = K (onScale s v) := by
  obtain ⟨hs1, hs2, hs3, hs4, hs5, hs6⟩ := scaleOk_iff.1 hs
  obtain ⟨i, b, h1, h2, h3, h4⟩ := p_search s.cuts v (by omega) ((rising_iff _).2 hs5)
  have hlt : (s.cuts.filter fun c => decide (c ≤ v)).length < s.points.length := by
    have := List.length_filter_le (fun c => decide (c ≤ v)) s.cuts
    omega
  have hy := List.getElem?_eq_getElem hlt
  have hon : onScale s v = s.points[(s.cuts.filter fun c => decide (c ≤ v)).length] := by
    unfold onScale; rw [if_neg hv, hy]; rfl
  rw [h1, bindS, hon]
  have hc : chk .i64 (i + 1) = some (i + 1) := chk_i64 (by omega)
  cases b with
  | true =>
    simp only [if_true] at h4
    simp only [condT, hc, bindS]
    rw [h4, ixo_at hy, bindS]
  | false =>
    simp only [Bool.false_eq_true, if_false] at h4
    simp only [condF, bindS, h4, ixo_at hy]
theorem p_cardPoints (c : Card) (x : List Int) (hc : cardOk c x.length = true) (hx : x.length ≤ 5) : P.score_card_points c x = some (onCard c x) := by
  obtain ⟨hc1, hc2, hc3, hc4, hsc⟩ := cardOk_iff.1 hc
  have hpt := pt_iff.1 hc3
  unfold P.score_card_points
  have hl := loop_fold c.scales.length (fun i => c.base + ((parts c x).take i).sum) (onCard c x)
    (body := (fun (x7, x8) => cond (decide (x8 < (c.scales.length : Int))) (Option.bind (Option.bind (ixo c.scales x8) fun y10 => Option.bind (ixo x x8) fun y30 => cond (decide (y30 = (-1))) (Option.bind (chk .i64 (x7 + y10.none_)) fun n38 => some n38) (Option.bind (ixo x x8) fun y39 => Option.bind (P.slices_BinarySearch_129 y10.cuts y39) fun (z46, z47) => Option.bind (Option.bind (cond z47 (Option.bind (chk .i64 (z46 + 1)) fun n56 => some n56) (some z46)) fun x57 => some x57) fun x58 => Option.bind (ixo y10.points x58) fun y59 => Option.bind (chk .i64 (x7 + y59)) fun n66 => some n66)) fun x67 => Option.bind (chk .i64 (x8 + 1)) fun n68 => some (.inl (x67, n68))) (some (.inr x7))))
    (fun i hi => by
      have hy := List.getElem?_eq_getElem hi
      have hi' : i < x.length := by omega
      have hz := List.getElem?_eq_getElem hi'
      have hp := parts_get hy hz
      have hs := hsc i _ hy
      have hb := onScale_bd x[i] hs
      have hsum := sum_succ hp
      have hbd := sum_bd (B := 1000000) ((parts c x).take i) (fun y hy => parts_bd hsc y (List.mem_of_mem_take hy))
      have hlen : ((parts c x).take i).length ≤ 5 := by rw [List.length_take, parts_len]; omega
      simp only [lt_cast hi, condT, ixo_at hy, ixo_at hz, bindS, chk_nat (i := i) (by omega)]
      by_cases e : x[i] = -1
      · have e1 := decide_eq_true e
        have hon : onScale c.scales[i] x[i] = c.scales[i].none_ := by unfold onScale; rw [if_pos e]
        rw [hon] at hb hsum
        simp only [e1, condT]
        rw [chk_i64 (by omega)]
        simp only [bindS]
        rw [hsum, Int.add_assoc]
      · have e1 := decide_eq_false e
        simp only [e1, condF]
        rw [p_lookup _ _ hs e, chk_i64 (by omega)]
        simp only [bindS]
        rw [hsum, Int.add_assoc]) (by
      simp only [not_lt_cast, condF]
      rw [List.take_of_length_le (by rw [parts_len]; exact Nat.le_refl _)]; rfl)
  simp only [List.take_zero, List.sum_nil, Int.add_zero] at hl
  rw [hl, bindS]
theorem p_treePoints (t : Tree) (x : List Int) (hc : treeOk t x.length = true) : P.score_tree_points t x = some (onTree t x) := by
  obtain ⟨ht1, ht2, ht3, ht4, htn⟩ := treeOk_iff.1 hc
  unfold P.score_tree_points
  have key : ∀ (k : Nat) (a : Int) (n : Node), 0 ≤ a → t.nodes[a.toNat]? = some n → t.nodes.length - a.toNat ≤ k → ∃ q : Int × Int × Int × Int × Int,
      loopM (S := Int × Int × Int × Int × Int) (R := (Int × Int × Int × Int × Int)) (fun (x25, x26, x27, x28, x29) => cond (!decide (x25 = (-1))) (Option.bind (Option.bind (ixo x x25) fun y31 => Option.bind (cond (decide (y31 < x26)) (Option.bind (ixo t.nodes x27) fun y42 => some (y42.trait, y42.cut, y42.low, y42.high, y42.points)) (Option.bind (ixo t.nodes x28) fun y56 => some (y56.trait, y56.cut, y56.low, y56.high, y56.points))) fun (x70, x71, x72, x73, x74) => some (x70, x71, x72, x73, x74)) fun (x75, x76, x77, x78, x79) => some (.inl (x75, x76, x77, x78, x79))) (some (.inr (x25, x26, x27, x28, x29)))) (n.trait, n.cut, n.low, n.high, n.points) = some q ∧ q.2.2.2.2 = onTreeFrom t x k a := by
    intro k
    induction k with
    | zero => intro a n h0 hn hk; have := get_lt hn; omega
    | succ k ih =>
      intro a n h0 hn hk
      by_cases e : n.trait = -1
      · have e1 := decide_eq_true e
        refine ⟨(n.trait, n.cut, n.low, n.high, n.points), loopM_end (by simp only [e1, notT, condF]), ?_⟩
        rw [onTree_leaf hn e]
      · have e1 := decide_eq_false e
        obtain ⟨q1, q2, q3, q4, q5, q6⟩ := node_asks (htn _ _ hn) e
        have hl2 : n.trait.toNat < x.length := by omega
        have hv := List.getElem?_eq_getElem hl2
        rw [onTree_step hn e hv]
        by_cases e2 : x[n.trait.toNat] < n.cut
        · have hy : t.nodes[n.low.toNat]? = some t.nodes[n.low.toNat] := List.getElem?_eq_getElem (by omega)
          obtain ⟨q, g1, g2⟩ := ih n.low _ (by omega) hy (by omega)
          refine ⟨q, ?_, by rw [if_pos e2]; exact g2⟩
          rw [← g1]
          refine loopM_go ?_
          simp only [e1, notF, condT, ixo_some q1 hv, bindS, decide_eq_true e2, ixo_some (show 0 ≤ n.low by omega) hy]
        · have hy : t.nodes[n.high.toNat]? = some t.nodes[n.high.toNat] := List.getElem?_eq_getElem (by omega)
          obtain ⟨q, g1, g2⟩ := ih n.high _ (by omega) hy (by omega)
          refine ⟨q, ?_, by rw [if_neg e2]; exact g2⟩
          rw [← g1]
          refine loopM_go ?_
          simp only [e1, notF, condT, condF, ixo_some q1 hv, bindS, decide_eq_false e2, ixo_some (show 0 ≤ n.high by omega) hy]
  have hy : t.nodes[(0 : Int).toNat]? = some t.nodes[(0 : Int).toNat] := List.getElem?_eq_getElem (by simp; omega)
  obtain ⟨⟨q1, q2, q3, q4, q5⟩, g1, g2⟩ := key t.nodes.length 0 _ (Int.le_refl _) hy (by simp)
  rw [ixo_some (Int.le_refl _) hy, bindS, g1, bindS]
  exact congrArg some g2
theorem p_cardRight (c : Card) (traits : Int) (h : c.scales.length ≤ 10) (hs : ∀ s ∈ c.scales, s.cuts.length ≤ 10 ∧ s.points.length ≤ 12) : P.score_card_right c traits = some (pt c.base && decide ((c.scales.length : Int) = traits) && c.scales.all scaleOk) := by
  unfold P.score_card_right
  rw [p_counts _ (by simp), p_has130 c.scales _ (fun s => !scaleOk s) (fun s hm => by
    unfold P.score_card_right_in1
    rw [show (Scale.mk s.cuts s.points s.none_) = s from rfl, p_measured s (hs s hm).1 (hs s hm).2, bindS]) (by omega)]
  simp only [List.all_cons, List.all_nil, Bool.and_true, bindS]
  rw [List.all_eq_not_any_not]
  cases pt c.base <;> cases decide ((c.scales.length : Int) = traits) <;> simp
theorem p_treeRight (t : Tree) (traits : Int) (h : t.nodes.length ≤ 20) (ht : 1 ≤ traits ∧ traits ≤ 5) : P.score_tree_right t traits = some (decide (1 ≤ t.nodes.length ∧ t.nodes.length ≤ 7) && t.nodes.zipIdx.all fun p => nodeOk traits t.nodes.length p.2 p.1) := by
  unfold P.score_tree_right
  rw [loop_any t.nodes (fun y i => !nodeOk traits t.nodes.length i y) (.inr false) (.inl ()) (fun i y hy => by
    have hi := get_lt hy
    have hc : chk .i64 (traits - 1) = some (traits - 1) := chk_i64 (by omega)
    have hc2 : chk .i64 ((t.nodes.length : Int) - 1) = some ((t.nodes.length : Int) - 1) := chk_i64 (by omega)
    simp only [lt_cast hi, condT, ixo_at hy, bindS, hc, hc2, chk_nat (i := i) (by omega), p_swithin 0 (traits - 1) [y.trait] (by simp), p_swithin 1 1000000 [y.cut] (by simp), p_swithin ((i : Int) + 1) ((t.nodes.length : Int) - 1) [y.low, y.high] (by simp), p_counts [y.points] (by simp), List.all_cons, List.all_nil, Bool.and_true]
    have key : (bif decide (0 ≤ y.trait ∧ y.trait ≤ traits - 1) then bif decide (1 ≤ y.cut ∧ y.cut ≤ 1000000) then
        bif (decide ((i : Int) + 1 ≤ y.low ∧ y.low ≤ (t.nodes.length : Int) - 1) && decide ((i : Int) + 1 ≤ y.high ∧ y.high ≤ (t.nodes.length : Int) - 1)) then
        bif !decide (y.low = y.high) then some (decide (y.points = 0)) else some false else some false else some false else some false) =
        some (decide (0 ≤ y.trait ∧ y.trait ≤ traits - 1 ∧ 1 ≤ y.cut ∧ y.cut ≤ 1000000 ∧ (i : Int) < y.low ∧ (i : Int) < y.high ∧ y.low < t.nodes.length ∧ y.high < t.nodes.length ∧ y.low ≠ y.high ∧ y.points = 0)) := by
      simp only [Bool.cond_eq_ite, Bool.not_eq_true', decide_eq_true_eq, decide_eq_false_iff_not, Bool.and_eq_true]
      repeat' split
      all_goals (congr 1; rw [Bool.eq_iff_iff]; simp only [Bool.false_eq_true, false_iff, decide_eq_true_eq] <;> omega)
    rw [key]
    simp only [bindS]
    have e6 : decide (Node.mk y.trait y.cut y.low y.high y.points = Node.mk (-1) 0 0 0 y.points) = decide (y.trait = -1 ∧ y.cut = 0 ∧ y.low = 0 ∧ y.high = 0) := by
      rw [Bool.eq_iff_iff, decide_eq_true_eq, decide_eq_true_eq, Node.mk.injEq]
      simp
    rw [e6]
    unfold nodeOk
    cases pt y.points <;> cases decide (y.trait = -1 ∧ y.cut = 0 ∧ y.low = 0 ∧ y.high = 0) <;> cases decide (0 ≤ y.trait ∧ y.trait ≤ traits - 1 ∧ 1 ≤ y.cut ∧ y.cut ≤ 1000000 ∧ (i : Int) < y.low ∧ (i : Int) < y.high ∧ y.low < t.nodes.length ∧ y.high < t.nodes.length ∧ y.low ≠ y.high ∧ y.points = 0) <;> simp) (by simp only [not_lt_cast, condF])]
  rw [p_swithin 1 7 [(t.nodes.length : Int)] (by simp)]
  simp only [bindS, List.all_cons, List.all_nil, Bool.and_true]
  rw [List.all_eq_not_any_not]
  have e1 : decide (1 ≤ (t.nodes.length : Int) ∧ (t.nodes.length : Int) ≤ 7) = decide (1 ≤ t.nodes.length ∧ t.nodes.length ≤ 7) := by
    rw [Bool.eq_iff_iff]; simp only [decide_eq_true_eq]; omega
  rw [e1]
  cases (t.nodes.zipIdx.any fun p => !nodeOk traits t.nodes.length p.2 p.1) with
  | true => simp only [condT, elimRS]; simp
  | false => simp only [condF, elimLS]; simp
end S
end Go.Proofs.Ytecmlmngcnionaa
namespace Go.Proofs.Ytecmlmngcnionaa
open Go Go.Sx
namespace S
def partsOf (m : Model) : List I87 := m.cards.map I87.c105 ++ m.trees.map I87.c106
def worksOf (m : Model) : Works := if modelOk m then Works.mk m (partsOf m) else Works.mk (Model.mk 0 [] [] 0) []
def badPart (traits : Int) : I87 → Bool
  | .c105 c => !cardOk c traits
  | .c106 t => !treeOk t traits
theorem partsOf_len (m : Model) : (partsOf m).length = m.cards.length + m.trees.length := by simp [partsOf]
theorem p_part (m : Model) (hs : Small m) (ht : 1 ≤ m.traits ∧ m.traits ≤ 5) (p : I87) (hp : p ∈ partsOf m) : P.score_open_in1 p m = some (badPart m.traits p) := by
  unfold P.score_open_in1
  rcases List.mem_append.1 hp with h | h
  · obtain ⟨c, hc, rfl⟩ := List.mem_map.1 h
    unfold P.M87_weight P.M87_right P.score_card_weight
    simp only [bindS, p_swithin 0 1000 [c.weight] (by simp), p_cardRight c m.traits (hs.scales c hc) (hs.cuts c hc), List.all_cons, List.all_nil, Bool.and_true]
    show _ = some (!cardOk c m.traits)
    unfold cardOk
    cases decide (0 ≤ c.weight ∧ c.weight ≤ 1000) with
    | false => simp only [notF, condT, bindS, Bool.false_and]
    | true => simp only [notT, condF, bindS, Bool.true_and]
  · obtain ⟨c, hc, rfl⟩ := List.mem_map.1 h
    unfold P.M87_weight P.M87_right P.score_tree_weight
    simp only [bindS, p_swithin 0 1000 [c.weight] (by simp), p_treeRight c m.traits (hs.nodes c hc) ht, List.all_cons, List.all_nil, Bool.and_true]
    show _ = some (!treeOk c m.traits)
    unfold treeOk
    cases decide (0 ≤ c.weight ∧ c.weight ≤ 1000) with
    | false => simp only [notF, condT, bindS, Bool.false_and]
    | true => simp only [notT, condF, bindS, Bool.true_and]
theorem any_parts (m : Model) : (partsOf m).any (badPart m.traits) = !(m.cards.all (cardOk · m.traits) && m.trees.all (treeOk · m.traits)) := by
  unfold partsOf
  rw [List.any_append, List.any_map, List.any_map, Bool.not_and, List.all_eq_not_any_not, List.all_eq_not_any_not, Bool.not_not, Bool.not_not]
  rfl
theorem p_open (m : Model) (hs : Small m) : P.score_open m = some (worksOf m, check m) := by
  have hc6 := hs.cards
  have ht6 := hs.trees
  unfold P.score_open
  have hl := loop_fold' m.cards.length (fun i => (m.cards.take i).map I87.c105) (m.cards.map I87.c105)
    (body := (fun (x18, x19) => cond (decide (x18 < (m.cards.length : Int))) (Option.bind (ixo m.cards x18) fun y21 => Option.bind (appo 16 x19 ([(I87.c105 (Card.mk y21.weight y21.base y21.scales))] : List I87)) fun l46 => Option.bind (chk .i64 (x18 + 1)) fun n54 => some (.inl (n54, l46))) (some (.inr x19))))
    (fun i hi => by
      have hy := List.getElem?_eq_getElem hi
      simp only [lt_cast hi, condT, ixo_at hy, bindS, chk_nat (i := i) (by omega)]
      rw [appo_ok (by simp; omega) (by simp; omega)]
      simp only [bindS]
      rw [map_succ hy]) (by simp only [not_lt_cast, condF, List.take_length])
  simp only [List.take_zero, List.map_nil] at hl
  rw [hl, bindS]
  have hl2 := loop_fold' m.trees.length (fun i => m.cards.map I87.c105 ++ (m.trees.take i).map I87.c106) (partsOf m)
    (body := (fun (x56, x57) => cond (decide (x56 < (m.trees.length : Int))) (Option.bind (ixo m.trees x56) fun y59 => Option.bind (appo 16 x57 ([(I87.c106 (Tree.mk y59.weight y59.nodes))] : List I87)) fun l83 => Option.bind (chk .i64 (x56 + 1)) fun n91 => some (.inl (n91, l83))) (some (.inr x57))))
    (fun i hi => by
      have hy := List.getElem?_eq_getElem hi
      simp only [lt_cast hi, condT, ixo_at hy, bindS, chk_nat (i := i) (by omega)]
      rw [appo_ok (by simp; omega) (by simp; omega)]
      simp only [bindS]
      rw [map_succ hy, List.append_assoc]) (by simp only [not_lt_cast, condF, List.take_length]; rfl)
  simp only [List.take_zero, List.map_nil, List.append_nil] at hl2
  rw [hl2, bindS, show (Model.mk m.traits m.cards m.trees m.need) = m from rfl, p_swithin 1 5 [m.traits] (by simp), p_counts [m.need] (by simp)]
  simp only [bindS, List.all_cons, List.all_nil, Bool.and_true]
  have hw : worksOf m = if modelOk m then Works.mk m (partsOf m) else Works.mk (Model.mk 0 [] [] 0) [] := rfl
  rw [hw]
  unfold check modelOk
  cases e1 : decide (1 ≤ m.traits ∧ m.traits ≤ 5) with
  | false => simp only [notF, condT, bindS, Bool.false_and, Bool.false_eq_true, if_false]
  | true =>
    have e1 := of_decide_eq_true e1
    simp only [notT, condF, Bool.true_and]
    cases e2 : pt m.need with
    | false => simp only [notF, condT, bindS, Bool.false_and, Bool.false_eq_true, if_false]
    | true =>
      simp only [notT, condF, Bool.true_and]
      by_cases e3 : m.cards.length ≤ 2
      · have e3' : decide ((2 : Int) < m.cards.length) = false := decide_eq_false (by omega)
        simp only [e3, e3', decide_true, condF, Bool.true_and]
        by_cases e4 : m.trees.length ≤ 2
        · have e4' : decide ((2 : Int) < m.trees.length) = false := decide_eq_false (by omega)
          simp only [e4, e4', decide_true, condF, Bool.true_and]
          rw [p_has54 (partsOf m) _ (badPart m.traits) (fun p hp => p_part m hs e1 p hp) (by rw [partsOf_len]; omega), any_parts]
          cases (m.cards.all (cardOk · m.traits) && m.trees.all (treeOk · m.traits)) with
          | true => simp only [bindS, notT, condF, if_true]
          | false => simp only [bindS, notF, condT, Bool.false_eq_true, if_false]
        · have e4' : decide ((2 : Int) < m.trees.length) = true := decide_eq_true (by omega)
          simp only [e4, e4', decide_false, condT, bindS, Bool.false_and, Bool.false_eq_true, if_false]
      · have e3' : decide ((2 : Int) < m.cards.length) = true := decide_eq_true (by omega)
        simp only [e3, e3', decide_false, condT, bindS, Bool.false_and, Bool.false_eq_true, if_false]
theorem p_Check (m : Model) (hs : Small m) : P.score_Check m = some (check m) := by
  unfold P.score_Check
  rw [show (Model.mk m.traits m.cards m.trees m.need) = m from rfl, p_open m hs, bindS]
theorem p_asked (m : Model) (x : List Int) (hs : Small m) (hx : x.length ≤ 10) : P.score_asked m x = some (worksOf m, err m x) := by
  unfold P.score_asked
  rw [show (Model.mk m.traits m.cards m.trees m.need) = m from rfl, p_open m hs, bindS, p_swithin (-1) 1000000 x (by omega)]
  unfold check err valuesOk
  cases h1 : modelOk m with
  | false =>
    have : decide ((60 : Int) = 0) = false := by decide
    simp only [Bool.false_eq_true, if_false, this, condF, bindS]
  | true =>
    simp only [if_true, decide_true, condT, bindS]
    cases h2 : decide ((x.length : Int) = m.traits) with
    | false => simp only [notF, condT, bindS, Bool.false_and, Bool.false_eq_true, if_false]
    | true =>
      simp only [notT, condF, Bool.true_and]
      cases (x.all fun v => decide (-1 ≤ v ∧ v ≤ 1000000)) with
      | false => simp only [bindS, notF, condT, Bool.false_eq_true, if_false]
      | true => simp only [bindS, notT, condF, if_true]
theorem parts_at (m : Model) (x : List Int) (hm : modelOk m = true) (hx : valuesOk m x = true) {i : Nat} {y : Int} (hy : (all m x)[i]? = some y) : ∃ p, (partsOf m)[i]? = some p ∧ P.M87_weight p = some (weightAt m i) ∧ P.M87_points p x = some y := by
  obtain ⟨hm1, hm2, hm3, hm4, hm5, hm6, hm7⟩ := modelOk_iff.1 hm
  obtain ⟨hv1, hv2⟩ := valuesOk_iff.1 hx
  have hi := get_lt hy
  rw [all_len] at hi
  unfold all at hy
  unfold partsOf
  rcases Nat.lt_or_ge i m.cards.length with h | h
  · have hc := List.getElem?_eq_getElem h
    refine ⟨.c105 m.cards[i], ?_, ?_, ?_⟩
    · rw [List.getElem?_append_left (by simpa using h), List.getElem?_map, hc]; rfl
    · rw [weightAt_card hc]; rfl
    · rw [List.getElem?_append_left (by simpa using h), List.getElem?_map, hc] at hy
      simp only [Option.map_some, Option.some.injEq] at hy
      show P.score_card_points _ _ = _
      rw [p_cardPoints _ _ (by rw [hv1]; exact hm6 _ _ hc) (by omega), hy]
  · have h3 : i - m.cards.length < m.trees.length := by omega
    have hc := List.getElem?_eq_getElem h3
    refine ⟨.c106 m.trees[i - m.cards.length], ?_, ?_, ?_⟩
    · rw [List.getElem?_append_right (by simpa using h), List.getElem?_map, List.length_map, hc]; rfl
    · rw [weightAt_tree (by omega) hc]; rfl
    · rw [List.getElem?_append_right (by simpa using h), List.getElem?_map, List.length_map, hc] at hy
      simp only [Option.map_some, Option.some.injEq] at hy
      show P.score_tree_points _ _ = _
      rw [p_treePoints _ _ (by rw [hv1]; exact hm7 _ _ hc), hy]
theorem weightAt_bd (m : Model) (hm : modelOk m = true) {i : Nat} (hi : i < m.cards.length + m.trees.length) : 0 ≤ weightAt m i ∧ weightAt m i ≤ 1000 := by
  obtain ⟨hm1, hm2, hm3, hm4, hm5, hm6, hm7⟩ := modelOk_iff.1 hm
  rcases Nat.lt_or_ge i m.cards.length with h2 | h2
  · have hc := List.getElem?_eq_getElem h2
    have hk := cardOk_iff.1 (hm6 _ _ hc)
    rw [weightAt_card hc]; exact ⟨hk.1, hk.2.1⟩
  · have h3 : i - m.cards.length < m.trees.length := by omega
    have hc := List.getElem?_eq_getElem h3
    have hk := treeOk_iff.1 (hm7 _ _ hc)
    rw [weightAt_tree (by omega) hc]; exact ⟨hk.1, hk.2.1⟩
theorem scoreTo_bd (m : Model) (x : List Int) (hm : modelOk m = true) : ∀ i : Nat, i ≤ (all m x).length → -6000000000 * (i : Int) ≤ scoreTo m x i ∧ scoreTo m x i ≤ 6000000000 * (i : Int)
  | 0, _ => by simp [scoreTo]
  | i + 1, hi => by
    have ih := scoreTo_bd m x hm i (by omega)
    have hy := List.getElem?_eq_getElem (show i < (all m x).length by omega)
    rw [scoreTo_succ hy]
    have hb := all_bd (x := x) hm _ _ hy
    have hw := weightAt_bd m hm (i := i) (by rw [← all_len (x := x)]; omega)
    have := mul_bd hw.1 hw.2 hb
    omega
theorem p_worksScore (m : Model) (x : List Int) (hm : modelOk m = true) (hx : valuesOk m x = true) : P.score_works_score (Works.mk m (partsOf m)) x = some (score m x) := by
  obtain ⟨hm1, hm2, hm3, hm4, hm5, hm6, hm7⟩ := modelOk_iff.1 hm
  unfold P.score_works_score
  have hal := all_len (m := m) (x := x)
  have hpl := partsOf_len m
  have hl := loop_fold (all m x).length (scoreTo m x) (score m x)
    (body := (fun (x7, x8) => cond (decide (x8 < ((partsOf m).length : Int))) (Option.bind (ixo (partsOf m) x8) fun y10 => Option.bind (P.M87_weight y10) fun z18 => Option.bind (P.M87_points y10 x) fun z23 => Option.bind (chk .i64 (z18 * z23)) fun n28 => Option.bind (chk .i64 (x7 + n28)) fun n29 => Option.bind (chk .i64 (x8 + 1)) fun n30 => some (.inl (n29, n30))) (some (.inr x7))))
    (fun i hi => by
      have hy := List.getElem?_eq_getElem hi
      obtain ⟨p, g1, g2, g3⟩ := parts_at m x hm hx hy
      have hb := all_bd (x := x) hm _ _ hy
      have hw := weightAt_bd m hm (i := i) (by omega)
      have hs := scoreTo_bd m x hm i (by omega)
      have := mul_bd hw.1 hw.2 hb
      rw [scoreTo_succ hy]
      simp only [lt_cast (get_lt g1), condT, ixo_at g1, bindS, g2, g3, chk_nat (i := i) (by omega)]
      rw [chk_i64 (by omega), bindS, chk_i64 (by omega)]
      simp only [bindS]) (by rw [hal, ← hpl]; simp only [not_lt_cast, condF]; rw [hpl, ← hal, score_eq])
  rw [show scoreTo m x 0 = 0 from by simp [scoreTo]] at hl
  rw [hl, bindS]
theorem p_SScore (m : Model) (x : List Int) (hs : Small m) (hx : x.length ≤ 10) : P.score_Score m x = some (if modelOk m && valuesOk m x then score m x else 0, modelOk m && valuesOk m x && decide (1000 * m.need ≤ score m x), err m x) := by
  unfold P.score_Score
  rw [show (Model.mk m.traits m.cards m.trees m.need) = m from rfl, p_asked m x hs hx, bindS]
  unfold err worksOf
  cases h1 : modelOk m with
  | false => simp
  | true =>
    simp only [if_true, Bool.true_and]
    cases h2 : valuesOk m x with
    | false => simp
    | true =>
      have hnd := pt_iff.1 (modelOk_iff.1 h1).2.2.1
      simp only [decide_true, notT, condF, if_true, Bool.true_and, p_worksScore m x h1 h2, bindS]
      unfold P.score_works_enough
      rw [chk_i64 (by simp only; omega)]
      simp only [bindS]
      rw [Int.mul_comm]
theorem p_SPoints (m : Model) (x : List Int) (hs : Small m) (hx : x.length ≤ 10) : P.score_Points m x = some (if modelOk m && valuesOk m x then all m x else [], err m x) := by
  unfold P.score_Points
  rw [show (Model.mk m.traits m.cards m.trees m.need) = m from rfl, p_asked m x hs hx, bindS]
  unfold err worksOf
  cases h1 : modelOk m with
  | false => simp
  | true =>
    simp only [if_true, Bool.true_and]
    cases h2 : valuesOk m x with
    | false => simp
    | true =>
      obtain ⟨hm1, hm2, hm3, hm4, hm5, hm6, hm7⟩ := modelOk_iff.1 h1
      simp only [decide_true, notT, condF, if_true]
      have hal := all_len (m := m) (x := x)
      have hpl := partsOf_len m
      have hl := loop_fold (all m x).length (fun i => (all m x).take i) (all m x)
        (body := (fun (x32, x33) => cond (decide (x33 < ((partsOf m).length : Int))) (Option.bind (ixo (partsOf m) x33) fun y35 => Option.bind (P.M87_points y35 x) fun z43 => Option.bind (appo 8 x32 ([z43] : List Int)) fun l54 => Option.bind (chk .i64 (x33 + 1)) fun n59 => some (.inl (l54, n59))) (some (.inr x32))))
        (fun i hi => by
          have hy := List.getElem?_eq_getElem hi
          obtain ⟨p, g1, g2, g3⟩ := parts_at m x h1 h2 hy
          simp only [lt_cast (get_lt g1), condT, ixo_at g1, bindS, g3, chk_nat (i := i) (by omega)]
          rw [appo_ok (by simp; omega) (by simp; omega)]
          simp only [bindS]
          rw [List.take_add_one, hy]; rfl) (by rw [hal, ← hpl]; simp only [not_lt_cast, condF]; rw [hpl, ← hal, List.take_length])
      rw [List.take_zero] at hl
      rw [hl, bindS]
end S
end Go.Proofs.Ytecmlmngcnionaa
namespace Go.Sx
open Go Go.RowKit
/-- What is made; none where the number is not one that a machine could hold. -/
def mko {α : Type} (b : Nat) (z : α) (n : Int) : Option (List α) := if 0 ≤ n ∧ (b : Int) * n ≤ 140737488355328 ∧ n ≤ 140737488355328 then some (List.replicate n.toNat z) else none
theorem mko_out {α : Type} {b : Nat} {z : α} {n : Int} {l : List α} (h : mko b z n = some l) : (0 ≤ n ∧ (b : Int) * n ≤ 140737488355328 ∧ n ≤ 140737488355328) ∧ l = List.replicate n.toNat z := by
  unfold mko at h
  split at h
  · cases h; exact ⟨by assumption, rfl⟩
  · cases h
theorem mko_ok {α : Type} {b : Nat} {z : α} {n : Nat} (h : b * n ≤ 140737488355328) (h2 : n ≤ 140737488355328) : mko b z (n : Int) = some (List.replicate n z) := by
  unfold mko
  have h3 : (b : Int) * (n : Int) ≤ 140737488355328 := by rw [← Int.natCast_mul]; omega
  rw [if_pos ⟨by omega, h3, by omega⟩, Int.toNat_natCast]
theorem Chunks.same {α : Type} {E : Enc α} {M : List Nat} {w : World} {v : Value} {z : α} (h : E.R M w [v] z) : ∀ n, Chunks E M w (List.replicate n v) (List.replicate n z)
  | 0 => rfl
  | n + 1 => ⟨[v], List.replicate n v, rfl, h, Chunks.same h n⟩
section
variable {P : Program} {N : Nat} {ops : Array Oper} {q : Md} {rest : List Oper} {ds : List Deferred} {L : Env} {w w0 : World} {A B : Out} {X : Nat → Out} {Z : List PanicEntry → Out} {d : Nat} {ty : TypeId} {pos : String} {af : Array Edge} {Mu M : List Nat} {σ : List Res}
theorem y_mk {α : Type} {E : Enc α} {t e bytes : Nat} (T : SlT P t e E.n bytes) {z : Value} {z0 : α} (hz : (P.info? e).bind (·.zero) = some z) (hone : z.cells = #[z]) (hR : ∀ M w, E.R M w [z] z0) {x y : Operand} {k k' : IntKind} {m : Int} {xs : List α} (hI : Hp w0 Mu M σ w)
    (hx : ev L x = some (.int k m)) (hy : ev L y = some (.int k' m)) (hm : mko bytes z0 m = some xs) (hN : Nat.blt d N = true)
    (h : ∀ v' w', Hp w0 Mu M (ownR [] E e v' xs :: σ) w' → Adv (mm σ M) (mm (ownR [] E e v' xs :: σ) M) w w' → Reg P N ops .seq rest ds ((d, v') :: L) w' A B X Z) :
    Reg P N ops .seq (⟨some d, .makeSlice t x y, ty, pos, af, none⟩ :: rest) ds L w A B X Z := by
  obtain ⟨⟨h0, hb, hmx⟩, rfl⟩ := mko_out hm
  obtain ⟨i, z', hi0, hz', hs, hby, hzs⟩ := T.info
  have hzz : z' = z := by
    have : (P.info? e).bind (·.zero) = some z' := by rw [hi0]; exact hz'
    rw [hz] at this; exact (Option.some.inj this).symm
  subst hzz
  have hn1 : E.n = 1 := by rw [← hzs, hone]; rfl
  have hcells : madeCells z'.cells (m.toNat * i.size) = (List.replicate m.toNat z').toArray := by
    rw [hs, hn1, hone, Nat.mul_one]
    apply Array.ext
    · simp [madeCells]
    · intro j h1 h2
      simp [madeCells, Nat.mod_one]
  obtain ⟨n, rfl⟩ : ∃ n : Nat, m = n := ⟨m.toNat, by omega⟩
  rw [Int.toNat_natCast] at hcells h
  let w1 := w.alloc (.cells (List.replicate n z').toArray e)
  have hx' : Ext w w1 := Kp.alloc _ _ _
  have hown : Own E e 0 (mm σ M) w1 (.slice (some ⟨w.heap.size, 0, none⟩) n n) (List.replicate n z0) := by
    cases n with
    | zero => exact .inl ⟨_, rfl, rfl⟩
    | succ j =>
      refine .inr ⟨w.heap.size, j, (List.replicate (j + 1) z').toArray, by simp, Nat.zero_le _, heap_alloc_new w _, by simp, by simp only [maxLen]; omega, by simp [hn1], ?_⟩
      rw [hn1, Nat.mul_one, List.length_replicate]
      rw [List.take_of_length_le (by simp)]
      exact Chunks.same (hR _ _) _
  have hnew : ∀ b ∈ ob (.slice (some ⟨w.heap.size, 0, none⟩) n n), w.heap.size ≤ b := fun b hb => by
    cases n with
    | zero => cases hb
    | succ m =>
      have : b = w.heap.size := by simpa [ob] using hb
      omega
  have hn' : ∀ b ∈ (ownR [] E e (.slice (some ⟨w.heap.size, 0, none⟩) n n) (List.replicate n z0)).fp, w.heap.size ≤ b ∧ b < w1.heap.size := fun b hb => ⟨hnew b hb, (hown.ge b hb).2⟩
  refine Reg.eff (.slice (some ⟨w.heap.size, 0, none⟩) n n) w1 rfl rfl hN (fun a ha => ?_) (h _ _ (hI.add hx' hn' rfl (hown.mon fun b hb => (List.mem_append.1 hb).elim .inl .inr)) (hI.addA hx' hn'))
  have hr := run_make (P := P) w t e i z' T.und hi0 hz' k k' (n : Int) (n : Int) (by omega) (Int.le_refl _) (by rw [hby]; omega) (by omega)
  rw [Int.toNat_natCast, hcells] at hr
  simp [execOp, ha.eval hx, ha.eval hy, hr, w1]
end
end Go.Sx
set_option maxRecDepth 20000
namespace Go.Proofs.Ytecmlmngcnionaa
open Go Go.Sx
namespace S
/-- A number put into a list in its order, if it is not there. -/
def putS : List Int → Int → List Int
  | [], n => [n]
  | a :: r, n => if a < n then a :: putS r n else if a = n then a :: r else n :: a :: r
end S
end Go.Proofs.Ytecmlmngcnionaa
namespace Go.Proofs.Ytecmlmngcnionaa
open Go Go.Sx
namespace S
def stepF (s : Span) (out : List Int) (n : Int) : List Int := if s.lo < n ∧ n ≤ s.hi then putS out n else out
theorem putS_len (n : Int) : ∀ l : List Int, (putS l n).length ≤ l.length + 1
  | [] => by simp [putS]
  | a :: r => by
    unfold putS
    have := putS_len n r
    split
    · simp only [List.length_cons]; omega
    · split <;> simp
theorem stepF_len (s : Span) (out : List Int) (n : Int) : (stepF s out n).length ≤ out.length + 1 := by
  unfold stepF
  have := putS_len n out
  split <;> omega
theorem foldF_len (s : Span) : ∀ (l out : List Int), (l.foldl (stepF s) out).length ≤ out.length + l.length
  | [], out => by simp
  | n :: l, out => by
    have h1 := foldF_len s l (stepF s out n)
    have h2 := stepF_len s out n
    simp only [List.foldl_cons, List.length_cons]; omega
def nodeF (trait : Int) (s : Span) (out : List Int) (n : Node) : List Int := if n.trait = trait then stepF s out n.cut else out
theorem nodeF_len (trait : Int) (s : Span) (out : List Int) (n : Node) : (nodeF trait s out n).length ≤ out.length + 1 := by
  unfold nodeF
  have := stepF_len s out n.cut
  split <;> omega
theorem foldN_len (trait : Int) (s : Span) : ∀ (l : List Node) (out : List Int), (l.foldl (nodeF trait s) out).length ≤ out.length + l.length
  | [], out => by simp
  | n :: l, out => by
    have h1 := foldN_len trait s l (nodeF trait s out n)
    have h2 := nodeF_len trait s out n
    simp only [List.foldl_cons, List.length_cons]; omega
def cardF (trait : Nat) (s : Span) (out : List Int) (c : Card) : List Int := (((c.scales[trait]?).map (·.cuts)).getD []).foldl (stepF s) out
def treeF (trait : Int) (s : Span) (out : List Int) (t : Tree) : List Int := t.nodes.foldl (nodeF trait s) out
def stepsS (m : Model) (trait : Nat) (s : Span) : List Int := m.trees.foldl (treeF trait s) (m.cards.foldl (cardF trait s) [s.lo])
theorem cards_len (trait : Nat) (s : Span) : ∀ (l : List Card) (out : List Int) (t : Int), (∀ c ∈ l, cardOk c t = true) → (l.foldl (cardF trait s) out).length ≤ out.length + 3 * l.length
  | [], out, _, _ => by simp
  | c :: l, out, t, h => by
    have h1 := cards_len trait s l (cardF trait s out c) t fun c hc => h c (List.mem_cons_of_mem _ hc)
    have h2 : (cardF trait s out c).length ≤ out.length + 3 := by
      unfold cardF
      cases hs : c.scales[trait]? with
      | none => simp
      | some sc =>
        have h3 := foldF_len s sc.cuts out
        have h4 := (scaleOk_iff.1 ((cardOk_iff.1 (h c (List.mem_cons_self ..))).2.2.2.2 trait sc hs)).1
        simp only [Option.map_some, Option.getD_some]; omega
    simp only [List.foldl_cons, List.length_cons]; omega
theorem trees_len (trait : Int) (s : Span) : ∀ (l : List Tree) (out : List Int) (t : Int), (∀ c ∈ l, treeOk c t = true) → (l.foldl (treeF trait s) out).length ≤ out.length + 7 * l.length
  | [], out, _, _ => by simp
  | c :: l, out, t, h => by
    have h1 := trees_len trait s l (treeF trait s out c) t fun c hc => h c (List.mem_cons_of_mem _ hc)
    have h2 : (treeF trait s out c).length ≤ out.length + 7 := by
      unfold treeF
      have h3 := foldN_len trait s c.nodes out
      have h4 := (treeOk_iff.1 (h c (List.mem_cons_self ..))).2.2.2.1
      omega
    simp only [List.foldl_cons, List.length_cons]; omega
end S
end Go.Proofs.Ytecmlmngcnionaa
namespace Go.Proofs.Ytecmlmngcnionaa
open Go Go.Sx
namespace S
theorem p_delete (s : List Int) (del : Int → Option Bool) (p : Int → Bool) (hf : ∀ y, y ∈ s → del y = some (p y)) (hl : s.length ≤ 1000000) : P.slices_DeleteFunc_75 s del = some (s.filter fun y => !p y) := by
  unfold P.slices_DeleteFunc_75
  rw [p_idx67 s del p hf hl, bindS]
  cases hi : s.findIdx? p with
  | none =>
    have h0 : idx p s = -1 := by simp [idx, hi]
    rw [h0, decide_eq_true rfl, condT]
    have := List.findIdx?_eq_none_iff.1 hi
    rw [List.filter_eq_self.2]
    intro y hy
    simp [this y hy]
  | some i =>
    obtain ⟨hil, hpi, hlt⟩ := List.findIdx?_eq_some_iff_getElem.1 hi
    have h0 : idx p s = (i : Int) := by simp [idx, hi]
    rw [h0, decide_eq_false (by omega), condF, chk_nat (by omega), bindS]
    have hstart : s.take i = (s.take (i + 1)).filter fun y => !p y := by
      have hy := List.getElem?_eq_getElem hil
      rw [List.take_add_one, hy, List.filter_append]
      have h1 : (s.take i).filter (fun y => !p y) = s.take i := by
        rw [List.filter_eq_self]
        intro y hy
        obtain ⟨j, hj⟩ := List.getElem?_of_mem hy
        rw [List.getElem?_take] at hj
        split at hj
        · rename_i hji
          have := hlt j hji
          rw [List.getElem?_eq_getElem (by omega)] at hj
          cases hj
          simpa using this
        · cases hj
      simp [h1, hpi]
    obtain ⟨⟨n, l⟩, g1, g2, g3⟩ := loop_inv2 (body := (fun (x9, x10, x11) => cond (decide (x10 < (x11.length : Int))) (Option.bind (Option.bind (ixo x11 x10) fun y13 => Option.bind (del y13) fun z20 => Option.bind (cond (!z20) (Option.bind (ixo x11 x9) fun y26 => Option.bind (seto x11 x9 y13) fun l33 => Option.bind (chk .i64 (x9 + 1)) fun n37 => some (n37, l33)) (some (x9, x11))) fun (x38, x39) => some (x38, x39)) fun (x40, x41) => Option.bind (chk .i64 (x10 + 1)) fun n42 => some (.inl (x40, n42, x41))) (some (.inr (x9, x11)))))
      (fun t : Int × Int × List Int => ∃ a b : Nat, t.1 = a ∧ t.2.1 = b ∧ a < b ∧ b ≤ s.length ∧ t.2.2.length = s.length ∧ t.2.2.drop b = s.drop b ∧ t.2.2.take a = (s.take b).filter fun y => !p y) (fun t => s.length - t.2.1.toNat)
      (Q := fun r : Int × List Int => r.2.length = s.length ∧ ∃ a : Nat, r.1 = a ∧ a ≤ s.length ∧ r.2.take a = s.filter fun y => !p y)
      (fun ⟨x, y, l⟩ ⟨a, b, h1, h2, h3, h4, h5, h6, h7⟩ => by
        simp only at h1 h2 h5 h6 h7
        subst h1 h2
        by_cases hb : b < s.length
        · left
          have hbl : b < l.length := by omega
          have hy : l[b]? = some s[b] := by
            have := congrArg (fun z => z[0]?) h6
            simp only [List.getElem?_drop, Nat.add_zero] at this
            rw [this, List.getElem?_eq_getElem hb]
          have hsb := List.getElem?_eq_getElem hb
          have hal : l[a]? = some l[a] := List.getElem?_eq_getElem (by omega)
          have hset : seto l (a : Int) s[b] = some (l.set a s[b]) := by unfold seto; rw [if_pos ⟨by omega, by omega⟩, Int.toNat_natCast]
          have hlt2 : decide ((b : Int) < (l.length : Int)) = true := lt_cast hbl
          simp only [hlt2, condT, ixo_at hy, bindS, hf s[b] (List.getElem_mem hb), chk_nat (i := b) (by omega), chk_nat (i := a) (by omega)]
          have htake : (s.take (b + 1)).filter (fun y => !p y) = (s.take b).filter (fun y => !p y) ++ (if p s[b] then [] else [s[b]]) := by
            rw [List.take_add_one, hsb, List.filter_append]
            cases hp : p s[b] <;> simp [hp]
          cases hp : p s[b] with
          | true =>
            refine ⟨((a : Int), (b : Int) + 1, l), by simp only [notT, condF, bindS], ⟨a, b + 1, rfl, by simp, by omega, by omega, h5, ?_, ?_⟩, by simp only; omega⟩
            · show l.drop (b + 1) = s.drop (b + 1)
              rw [← List.drop_drop, h6, List.drop_drop]
            · show l.take a = _
              rw [htake, hp, h7]; simp
          | false =>
            refine ⟨((a : Int) + 1, (b : Int) + 1, l.set a s[b]), by simp only [notF, condT, ixo_at hal, hset, bindS], ⟨a + 1, b + 1, by simp, by simp, by omega, by omega, by simp [h5], ?_, ?_⟩, by simp only; omega⟩
            · show (l.set a s[b]).drop (b + 1) = s.drop (b + 1)
              rw [List.drop_set_of_lt (by omega), ← List.drop_drop, h6, List.drop_drop]
            · show (l.set a s[b]).take (a + 1) = _
              rw [htake, hp, ← h7, List.take_add_one]
              have hse : (l.set a s[b])[a]? = some s[b] := by rw [List.getElem?_set_self (by omega)]
              rw [hse]
              have hts : (l.set a s[b]).take a = l.take a := by
                apply List.ext_getElem?
                intro k
                rw [List.getElem?_take, List.getElem?_take]
                split
                · rw [List.getElem?_set_ne (by omega)]
                · rfl
              rw [hts]; simp
        · right
          have hbe : b = s.length := by omega
          have e1 : decide ((b : Int) < (l.length : Int)) = false := decide_eq_false (by omega)
          refine ⟨((a : Int), l), by simp only [e1, condF], h5, a, rfl, by omega, ?_⟩
          show l.take a = _
          rw [h7, hbe, List.take_length]) ((i : Int), (i : Int) + 1, s) ⟨i, i + 1, rfl, by simp, by omega, by omega, rfl, rfl, hstart⟩
    obtain ⟨a, ha, hal, hta⟩ := g3
    simp only at ha hta g2
    subst ha
    rw [g1]
    simp only [bindS]
    have hcl : cutLo l (a : Int) = some (l.drop a) := by unfold cutLo; rw [if_pos ⟨by omega, by omega⟩, Int.toNat_natCast]
    rw [hcl, bindS, Int.toNat_natCast]
    have hlen : (l.take a ++ List.replicate (l.drop a).length (0 : Int)).length = s.length := by simp; omega
    have hch : cutHi (l.take a ++ List.replicate (l.drop a).length (0 : Int)) (a : Int) = some ((l.take a ++ List.replicate (l.drop a).length (0 : Int)).take a) := by unfold cutHi; rw [if_pos ⟨by omega, by omega⟩, Int.toNat_natCast]
    rw [hch, bindS]
    congr 1
    rw [List.take_append_of_le_length (by rw [List.length_take]; omega), List.take_take, Nat.min_self, hta]
end S
end Go.Proofs.Ytecmlmngcnionaa
namespace Go.Proofs.Ytecmlmngcnionaa
open Go Go.Sx
namespace S
/-- The first n numbers without those that follow one like them. -/
def ddn (s : List Int) : Nat → List Int
  | 0 => []
  | n + 1 => if 0 < n ∧ s[n - 1]? = s[n]? then ddn s n else ddn s n ++ (s[n]?).toList
theorem ddn_same {s : List Int} {n : Nat} {y : Int} (hn : 0 < n) (h1 : s[n - 1]? = some y) (h2 : s[n]? = some y) : ddn s (n + 1) = ddn s n := by
  simp [ddn, hn, h1, h2]
theorem ddn_new {s : List Int} {n : Nat} {x y : Int} (h1 : s[n - 1]? = some x) (h2 : s[n]? = some y) (h : y ≠ x) : ddn s (n + 1) = ddn s n ++ [y] := by
  have : ¬ (x = y) := fun e => h e.symm
  simp [ddn, h1, h2, this]
theorem ddn_take {s : List Int} : ∀ (n : Nat), n ≤ s.length → (∀ j : Nat, j + 1 < n → ∀ c d, s[j]? = some c → s[j + 1]? = some d → c ≠ d) → ddn s n = s.take n
  | 0, _, _ => by simp [ddn]
  | n + 1, hn, h => by
    have ih := ddn_take n (by omega) fun j hj => h j (by omega)
    have hy : s[n]? = some s[n] := List.getElem?_eq_getElem (by omega)
    unfold ddn
    have hne : ¬ (0 < n ∧ s[n - 1]? = s[n]?) := by
      rintro ⟨h0, h1⟩
      have hx : s[n - 1]? = some s[n - 1] := List.getElem?_eq_getElem (by omega)
      rw [hx, hy] at h1
      exact h (n - 1) (by omega) _ _ hx (by rw [show n - 1 + 1 = n by omega]; exact hy) (Option.some.inj h1)
    rw [if_neg hne, ih, List.take_add_one]
theorem ddn_mem {s : List Int} {x : Int} : ∀ (n : Nat), x ∈ ddn s n ↔ x ∈ s.take n
  | 0 => by simp [ddn]
  | n + 1 => by
    have ih := ddn_mem (s := s) (x := x) n
    unfold ddn
    rw [List.take_add_one, List.mem_append]
    split
    · rename_i h
      rw [ih]
      constructor
      · exact .inl
      · rintro (h1 | h1)
        · exact h1
        · rw [← h.2] at h1
          cases hp : s[n - 1]? with
          | none => rw [hp] at h1; cases h1
          | some y =>
            rw [hp] at h1
            have : x = y := by simpa using h1
            subst this
            exact List.mem_of_getElem? (i := n - 1) (by rw [List.getElem?_take, if_pos (by omega)]; exact hp)
    · rw [List.mem_append, ih]
theorem ddn_le {s : List Int} (hs : s.Pairwise (· ≤ ·)) {n : Nat} {x y : Int} (hx : x ∈ ddn s (n + 1)) (hy : s[n]? = some y) : x ≤ y := by
  obtain ⟨j, hj⟩ := List.getElem?_of_mem ((ddn_mem _).1 hx)
  rw [List.getElem?_take] at hj
  split at hj
  · rename_i hjn
    rcases Nat.lt_or_ge j n with h1 | h1
    · have h2 := List.pairwise_iff_getElem.1 hs j n (get_lt hj) (get_lt hy) h1
      have h3 := List.getElem?_eq_getElem (get_lt hj)
      have h4 := List.getElem?_eq_getElem (get_lt hy)
      rw [hj] at h3; rw [hy] at h4
      have h3 := Option.some.inj h3
      have h4 := Option.some.inj h4
      omega
    · have : j = n := by omega
      subst this
      rw [hy] at hj; cases hj; exact Int.le_refl _
  · cases hj
theorem ddn_strict {s : List Int} (hs : s.Pairwise (· ≤ ·)) : ∀ (n : Nat), (ddn s n).Pairwise (· < ·)
  | 0 => by simp [ddn]
  | n + 1 => by
    have ih := ddn_strict hs n
    unfold ddn
    split
    · exact ih
    · rename_i h
      cases hy : s[n]? with
      | none => simpa using ih
      | some y =>
        rw [Option.toList_some, List.pairwise_append]
        refine ⟨ih, by simp, fun a ha b hb => ?_⟩
        have : b = y := by simpa using hb
        subst this
        cases n with
        | zero => simp [ddn] at ha
        | succ m =>
          have hl := get_lt hy
          have hm : m < s.length := by omega
          have hx : s[m]? = some s[m] := List.getElem?_eq_getElem hm
          have h1 := ddn_le hs ha hx
          have h2 := List.pairwise_iff_getElem.1 hs m (m + 1) hm hl (by omega)
          have h4 := List.getElem?_eq_getElem hl
          have hy' : s[m + 1] = b := Option.some.inj (h4.symm.trans hy)
          have h3 : s[m] ≠ s[m + 1] := fun e => h ⟨by omega, by simp only [Nat.add_sub_cancel]; rw [hx, h4, e]⟩
          omega
/-- Lists in order, without doubles, that hold the same. -/
theorem strict_ext : ∀ {a b : List Int}, a.Pairwise (· < ·) → b.Pairwise (· < ·) → (∀ x, x ∈ a ↔ x ∈ b) → a = b
  | [], [], _, _, _ => rfl
  | [], y :: b, _, _, h => by have := (h y).2 (List.mem_cons_self ..); cases this
  | x :: a, [], _, _, h => by have := (h x).1 (List.mem_cons_self ..); cases this
  | x :: a, y :: b, ha, hb, h => by
    rw [List.pairwise_cons] at ha hb
    have hxy : x = y := by
      have h1 := (h x).1 (List.mem_cons_self ..)
      have h2 := (h y).2 (List.mem_cons_self ..)
      rcases List.mem_cons.1 h1 with h1 | h1
      · exact h1
      · rcases List.mem_cons.1 h2 with h2 | h2
        · exact h2.symm
        · have := ha.1 y h2
          have := hb.1 x h1
          omega
    subst hxy
    congr 1
    refine strict_ext ha.2 hb.2 fun z => ⟨fun hz => ?_, fun hz => ?_⟩
    · have h1 := ha.1 z hz
      rcases List.mem_cons.1 ((h z).1 (List.mem_cons_of_mem _ hz)) with h2 | h2
      · omega
      · exact h2
    · have h1 := hb.1 z hz
      rcases List.mem_cons.1 ((h z).2 (List.mem_cons_of_mem _ hz)) with h2 | h2
      · omega
      · exact h2
theorem p_compactD (s : List Int) (hl : s.length ≤ 1000000) : P.slices_Compact_78 s = some (ddn s s.length) := by
  unfold P.slices_Compact_78
  by_cases h0 : s.length < 2
  · have e0 : decide ((s.length : Int) < 2) = true := decide_eq_true (by omega)
    rw [e0, condT, ddn_take s.length (Nat.le_refl _) (fun j hj => by omega), List.take_length]
  · have e0 : decide ((s.length : Int) < 2) = false := decide_eq_false (by omega)
    rw [e0, condF]
    obtain ⟨r, h1, h2⟩ := loop_inv2 (body := (fun x2 => cond (decide (x2 < (s.length : Int))) (Option.bind (ixo s x2) fun y4 => Option.bind (chk .i64 (x2 - 1)) fun n11 => Option.bind (ixo s n11) fun y12 => cond (decide (y4 = y12)) (Option.bind (cutLo s x2) fun l23 => Option.bind (loopM (S := Int × Int × (List Int)) (R := (Int × (List Int))) (fun (x26, x27, x28) => Option.bind (cutLo x28 x2) fun l29 => cond (decide (x27 < (l29.length : Int))) (Option.bind (Option.bind (cutLo x28 x2) fun l31 => Option.bind (ixo l31 x27) fun y32 => Option.bind (chk .i64 (x27 - 1)) fun n40 => Option.bind (cutLo x28 x2) fun l41 => Option.bind (ixo l41 n40) fun y42 => Option.bind (cond (!decide (y32 = y42)) (Option.bind (cutLo x28 x2) fun l54 => Option.bind (ixo l54 x27) fun y55 => Option.bind (ixo x28 x26) fun y63 => Option.bind (seto x28 x26 y55) fun l70 => Option.bind (chk .i64 (x26 + 1)) fun n74 => some (n74, l70)) (some (x26, x28))) fun (x75, x76) => some (x75, x76)) fun (x77, x78) => Option.bind (chk .i64 (x27 + 1)) fun n79 => some (.inl (x77, n79, x78))) (some (.inr (x26, x28)))) (x2, 1, s)) fun (x80, x81) => Option.bind (cutLo x81 x80) fun l82 => Option.bind (cutHi (x81.take x80.toNat ++ List.replicate l82.length 0) x80) fun l88 => some (.inr (.inr l88))) (Option.bind (chk .i64 (x2 + 1)) fun n92 => some (.inl n92))) (some (.inr (.inl ())))))
      (fun k : Int => 1 ≤ k ∧ k ≤ s.length ∧ ∀ j : Nat, (j : Int) + 1 < k → ∀ c d, s[j]? = some c → s[j + 1]? = some d → c ≠ d) (fun k => s.length - k.toNat) (Q := fun r : Unit ⊕ List Int => (r = .inl () ∧ s = ddn s s.length) ∨ r = .inr (ddn s s.length))
      (fun k ⟨hk1, hk2, hs⟩ => by
        by_cases hk : k < (s.length : Int)
        · have e1 : decide (k < (s.length : Int)) = true := decide_eq_true hk
          have ha : s[k.toNat]? = some s[k.toNat] := List.getElem?_eq_getElem (by omega)
          have hb : s[(k - 1).toNat]? = some s[(k - 1).toNat] := List.getElem?_eq_getElem (by omega)
          have hc : chk .i64 (k - 1) = some (k - 1) := chk_i64 (by omega)
          have hc2 : chk .i64 (k + 1) = some (k + 1) := chk_i64 (by omega)
          have hj : k.toNat = (k - 1).toNat + 1 := by omega
          simp only [e1, condT, ixo_some (show 0 ≤ k by omega) ha, ixo_some (show 0 ≤ k - 1 by omega) hb, hc, hc2, bindS]
          by_cases e : s[k.toNat] = s[(k - 1).toNat]
          · right
            have e2 : decide (s[k.toNat] = s[(k - 1).toNat]) = true := decide_eq_true e
            have hcut : ∀ l : List Int, l.length = s.length → cutLo l k = some (l.drop k.toNat) := fun l hl => by unfold cutLo; rw [if_pos ⟨by omega, by omega⟩]
            have hd0 : ddn s (k.toNat + 1) = s.take k.toNat := by
              rw [ddn_same (y := s[k.toNat]) (by omega) (by rw [show k.toNat - 1 = (k - 1).toNat by omega, hb, e]) ha]
              exact ddn_take _ (by omega) fun j hj => hs j (by omega)
            simp only [e2, condT, hcut s rfl, bindS]
            obtain ⟨⟨n, l⟩, g1, g2⟩ := loop_inv2 (body := (fun (x26, x27, x28) => Option.bind (cutLo x28 k) fun l29 => cond (decide (x27 < (l29.length : Int))) (Option.bind (Option.bind (cutLo x28 k) fun l31 => Option.bind (ixo l31 x27) fun y32 => Option.bind (chk .i64 (x27 - 1)) fun n40 => Option.bind (cutLo x28 k) fun l41 => Option.bind (ixo l41 n40) fun y42 => Option.bind (cond (!decide (y32 = y42)) (Option.bind (cutLo x28 k) fun l54 => Option.bind (ixo l54 x27) fun y55 => Option.bind (ixo x28 x26) fun y63 => Option.bind (seto x28 x26 y55) fun l70 => Option.bind (chk .i64 (x26 + 1)) fun n74 => some (n74, l70)) (some (x26, x28))) fun (x75, x76) => some (x75, x76)) fun (x77, x78) => Option.bind (chk .i64 (x27 + 1)) fun n79 => some (.inl (x77, n79, x78))) (some (.inr (x26, x28)))))
              (fun t : Int × Int × List Int => t.2.2.length = s.length ∧ k ≤ t.1 ∧ 1 ≤ t.2.1 ∧ t.2.1 ≤ s.length - k ∧ t.1 ≤ k + t.2.1 - 1 ∧ t.2.2.drop (k + t.2.1 - 1).toNat = s.drop (k + t.2.1 - 1).toNat ∧ t.2.2.take t.1.toNat = ddn s (k + t.2.1).toNat) (fun t => s.length - t.2.1.toNat) (Q := fun r : Int × List Int => r.2.length = s.length ∧ k ≤ r.1 ∧ r.1 < s.length ∧ r.2.take r.1.toNat = ddn s s.length)
              (fun ⟨i, j, l⟩ ⟨q1, q2, q3, q4, q5, q6, q7⟩ => by
                simp only at q1 q2 q3 q4 q5 q6 q7
                have hdl : (l.drop k.toNat).length = s.length - k.toNat := by rw [List.length_drop, q1]
                simp only [hcut l q1, bindS]
                by_cases hj2 : j < ((l.drop k.toNat).length : Int)
                · have e3 : decide (j < ((l.drop k.toNat).length : Int)) = true := decide_eq_true hj2
                  have hx : (l.drop k.toNat)[j.toNat]? = some (l.drop k.toNat)[j.toNat] := List.getElem?_eq_getElem (by omega)
                  have hy : (l.drop k.toNat)[(j - 1).toNat]? = some (l.drop k.toNat)[(j - 1).toNat] := List.getElem?_eq_getElem (by omega)
                  have hz : l[i.toNat]? = some l[i.toNat] := List.getElem?_eq_getElem (by omega)
                  have hc3 : chk .i64 (j - 1) = some (j - 1) := chk_i64 (by omega)
                  have hc4 : chk .i64 (j + 1) = some (j + 1) := chk_i64 (by omega)
                  have hc5 : chk .i64 (i + 1) = some (i + 1) := chk_i64 (by omega)
                  have hset : ∀ z, seto l i z = some (l.set i.toNat z) := fun z => by unfold seto; rw [if_pos ⟨by omega, by omega⟩]
                  have hsx : s[(k + j).toNat]? = some (l.drop k.toNat)[j.toNat] := by
                    have := congrArg (fun z => z[1]?) q6
                    simp only [List.getElem?_drop] at this
                    rw [show (k + j).toNat = (k + j - 1).toNat + 1 by omega, ← this, ← hx, List.getElem?_drop, show k.toNat + j.toNat = (k + j - 1).toNat + 1 by omega]
                  have hsy : s[(k + j).toNat - 1]? = some (l.drop k.toNat)[(j - 1).toNat] := by
                    have := congrArg (fun z => z[0]?) q6
                    simp only [List.getElem?_drop, Nat.add_zero] at this
                    rw [show (k + j).toNat - 1 = (k + j - 1).toNat by omega, ← this, ← hy, List.getElem?_drop, show k.toNat + (j - 1).toNat = (k + j - 1).toNat by omega]
                  have en : (k + (j + 1)).toNat = (k + j).toNat + 1 := by omega
                  have em : (k + (j + 1) - 1).toNat = (k + j - 1).toNat + 1 := by omega
                  have hdr : l.drop (k + (j + 1) - 1).toNat = s.drop (k + (j + 1) - 1).toNat := by
                    rw [em, ← List.drop_drop, q6, List.drop_drop]
                  simp only [e3, condT, ixo_some (show 0 ≤ j by omega) hx, ixo_some (show 0 ≤ j - 1 by omega) hy, ixo_some (show 0 ≤ i by omega) hz, hc3, hc4, hc5, hset, bindS]
                  left
                  by_cases e4 : (l.drop k.toNat)[j.toNat] = (l.drop k.toNat)[(j - 1).toNat]
                  · have e5 := decide_eq_true e4
                    refine ⟨(i, j + 1, l), by simp only [e5, notT, condF, bindS], ⟨q1, q2, by simp only; omega, by simp only; omega, by simp only; omega, hdr, ?_⟩, by simp only; omega⟩
                    show l.take i.toNat = ddn s (k + (j + 1)).toNat
                    rw [en, ddn_same (by omega) hsy (by rw [hsx, e4]), q7]
                  · have e5 := decide_eq_false e4
                    refine ⟨(i + 1, j + 1, l.set i.toNat (l.drop k.toNat)[j.toNat]), by simp only [e5, notF, condT, bindS], ⟨by simp only [List.length_set]; omega, by simp only; omega, by simp only; omega, by simp only; omega, by simp only; omega, ?_, ?_⟩, by simp only; omega⟩
                    · show (l.set i.toNat (l.drop k.toNat)[j.toNat]).drop (k + (j + 1) - 1).toNat = _
                      rw [List.drop_set_of_lt (by omega), hdr]
                    · show (l.set i.toNat (l.drop k.toNat)[j.toNat]).take (i + 1).toNat = ddn s (k + (j + 1)).toNat
                      rw [en, ddn_new hsy hsx e4, ← q7, show (i + 1).toNat = i.toNat + 1 by omega, List.take_add_one]
                      have hse : (l.set i.toNat (l.drop k.toNat)[j.toNat])[i.toNat]? = some (l.drop k.toNat)[j.toNat] := by rw [List.getElem?_set_self (by omega)]
                      rw [hse]
                      have hts : (l.set i.toNat (l.drop k.toNat)[j.toNat]).take i.toNat = l.take i.toNat := by
                        apply List.ext_getElem?
                        intro m
                        rw [List.getElem?_take, List.getElem?_take]
                        split
                        · rw [List.getElem?_set_ne (by omega)]
                        · rfl
                      rw [hts]; rfl
                · have e3 : decide (j < ((l.drop k.toNat).length : Int)) = false := decide_eq_false hj2
                  right
                  refine ⟨(i, l), by simp only [e3, condF], q1, q2, by simp only; omega, ?_⟩
                  show l.take i.toNat = _
                  rw [q7, show (k + j).toNat = s.length by omega]) (k, 1, s) ⟨rfl, by simp only; omega, by simp only; omega, by simp only; omega, by simp only; omega, rfl, by simp only; rw [show (k + 1).toNat = k.toNat + 1 by omega, hd0]⟩
            simp only at g2
            obtain ⟨g2, g3, g4, g5⟩ := g2
            rw [g1]
            simp only [bindS]
            have hcl : cutLo l n = some (l.drop n.toNat) := by unfold cutLo; rw [if_pos ⟨by omega, by omega⟩]
            rw [hcl, bindS]
            have hlen : (l.take n.toNat ++ List.replicate (l.drop n.toNat).length (0 : Int)).length = s.length := by simp; omega
            have hch : cutHi (l.take n.toNat ++ List.replicate (l.drop n.toNat).length (0 : Int)) n = some ((l.take n.toNat ++ List.replicate (l.drop n.toNat).length (0 : Int)).take n.toNat) := by unfold cutHi; rw [if_pos ⟨by omega, by omega⟩]
            rw [hch, bindS]
            refine ⟨_, rfl, .inr ?_⟩
            rw [List.take_append_of_le_length (by rw [List.length_take]; omega), List.take_take, Nat.min_self, g5]
          · left
            have e2 : decide (s[k.toNat] = s[(k - 1).toNat]) = false := decide_eq_false e
            refine ⟨k + 1, by simp only [e2, condF], ⟨by omega, by omega, fun j hj2 c d hc hd => ?_⟩, by omega⟩
            by_cases h9 : (j : Int) + 1 < k
            · exact hs j h9 c d hc hd
            · have : j = (k - 1).toNat := by omega
              subst this
              rw [hb] at hc; rw [← hj, ha] at hd
              cases hc; cases hd
              exact fun h => e h.symm
        · have e1 : decide (k < (s.length : Int)) = false := decide_eq_false hk
          right
          refine ⟨.inl (), by simp only [e1, condF], .inl ⟨rfl, ?_⟩⟩
          rw [ddn_take s.length (Nat.le_refl _) (fun j hj => hs j (by omega)), List.take_length]) 1 ⟨by omega, by omega, fun j hj => by omega⟩
    rw [h1, bindS]
    rcases h2 with ⟨rfl, h2⟩ | rfl
    · rw [elimLS, ← h2]
    · rw [elimRS]
end S
end Go.Proofs.Ytecmlmngcnionaa
namespace Go.Proofs.Ytecmlmngcnionaa
open Go Go.Sx
namespace S
theorem ex_cons {α : Type} {p : α → Prop} {a : α} {l : List α} : (∃ x, x ∈ a :: l ∧ p x) ↔ p a ∨ ∃ x, x ∈ l ∧ p x := by
  constructor
  · rintro ⟨x, h1, h2⟩
    rcases List.mem_cons.1 h1 with rfl | h1
    · exact .inl h2
    · exact .inr ⟨x, h1, h2⟩
  · rintro (h | ⟨x, h1, h2⟩)
    · exact ⟨a, List.mem_cons_self .., h⟩
    · exact ⟨x, List.mem_cons_of_mem _ h1, h2⟩
theorem putS_mem {n x : Int} : ∀ l : List Int, x ∈ putS l n ↔ x ∈ l ∨ x = n
  | [] => by simp [putS]
  | a :: r => by
    have ih := putS_mem (n := n) (x := x) r
    unfold putS
    split
    · simp only [List.mem_cons, ih]
      constructor
      · rintro (h | h | h)
        · exact .inl (.inl h)
        · exact .inl (.inr h)
        · exact .inr h
      · rintro ((h | h) | h)
        · exact .inl h
        · exact .inr (.inl h)
        · exact .inr (.inr h)
    · split
      · rename_i h
        subst h
        constructor
        · exact .inl
        · rintro (h | h)
          · exact h
          · subst h; exact List.mem_cons_self ..
      · rw [List.mem_cons (a := x) (b := n)]
        constructor
        · rintro (h | h)
          · exact .inr h
          · exact .inl h
        · rintro (h | h)
          · exact .inr h
          · exact .inl h
theorem putS_strict {n : Int} : ∀ {l : List Int}, l.Pairwise (· < ·) → (putS l n).Pairwise (· < ·)
  | [], _ => by simp [putS]
  | a :: r, h => by
    have h' := List.pairwise_cons.1 h
    unfold putS
    split
    · rename_i han
      refine List.pairwise_cons.2 ⟨fun x hx => ?_, putS_strict h'.2⟩
      rcases (putS_mem _).1 hx with h1 | h1
      · exact h'.1 x h1
      · subst h1; exact han
    · split
      · exact h
      · refine List.pairwise_cons.2 ⟨fun x hx => ?_, h⟩
        rcases List.mem_cons.1 hx with h1 | h1
        · subst h1; omega
        · have := h'.1 x h1; omega
/-- In order, without doubles; the least value, and of those of which C is so all that lie above it up to the greatest one. -/
def Good (s : Span) (C : Int → Prop) (out : List Int) : Prop := out.Pairwise (· < ·) ∧ ∀ x, x ∈ out ↔ x = s.lo ∨ (C x ∧ s.lo < x ∧ x ≤ s.hi)
theorem Good.iff {s : Span} {C C' : Int → Prop} {out : List Int} (h : Good s C out) (hc : ∀ x, C x ↔ C' x) : Good s C' out := ⟨h.1, fun x => by rw [h.2, hc]⟩
theorem stepF_good {s : Span} {C : Int → Prop} {out : List Int} {n : Int} (h : Good s C out) : Good s (fun x => C x ∨ x = n) (stepF s out n) := by
  unfold stepF
  split
  · rename_i hn
    refine ⟨putS_strict h.1, fun x => ?_⟩
    rw [putS_mem, h.2]
    constructor
    · rintro ((h1 | ⟨h1, h2⟩) | h1)
      · exact .inl h1
      · exact .inr ⟨.inl h1, h2⟩
      · subst h1; exact .inr ⟨.inr rfl, hn⟩
    · rintro (h1 | ⟨h1 | h1, h2⟩)
      · exact .inl (.inl h1)
      · exact .inl (.inr ⟨h1, h2⟩)
      · exact .inr h1
  · rename_i hn
    refine ⟨h.1, fun x => ?_⟩
    rw [h.2]
    constructor
    · rintro (h1 | ⟨h1, h2⟩)
      · exact .inl h1
      · exact .inr ⟨.inl h1, h2⟩
    · rintro (h1 | ⟨h1 | h1, h2⟩)
      · exact .inl h1
      · exact .inr ⟨h1, h2⟩
      · subst h1; exact absurd h2 hn
theorem foldF_good {s : Span} : ∀ (l : List Int) {C : Int → Prop} {out : List Int}, Good s C out → Good s (fun x => C x ∨ x ∈ l) (l.foldl (stepF s) out)
  | [], C, out, h => h.iff fun x => by simp
  | n :: l, C, out, h => (foldF_good l (stepF_good (n := n) h)).iff fun x => by simp only [List.mem_cons, or_assoc]
theorem foldN_good {s : Span} {trait : Int} : ∀ (l : List Node) {C : Int → Prop} {out : List Int}, Good s C out → Good s (fun x => C x ∨ ∃ n ∈ l, n.trait = trait ∧ x = n.cut) (l.foldl (nodeF trait s) out)
  | [], C, out, h => h.iff fun x => by simp
  | n :: l, C, out, h => by
    have h1 : Good s (fun x => C x ∨ (n.trait = trait ∧ x = n.cut)) (nodeF trait s out n) := by
      unfold nodeF
      split
      · rename_i e; exact (stepF_good (n := n.cut) h).iff fun x => by simp [e]
      · rename_i e; exact h.iff fun x => by simp [e]
    exact (foldN_good l h1).iff fun x => by simp only [ex_cons, or_assoc]
theorem foldC_good {s : Span} {trait : Nat} : ∀ (l : List Card) {C : Int → Prop} {out : List Int}, Good s C out → Good s (fun x => C x ∨ ∃ c ∈ l, ∃ sc, c.scales[trait]? = some sc ∧ x ∈ sc.cuts) (l.foldl (cardF trait s) out)
  | [], C, out, h => h.iff fun x => by simp
  | c :: l, C, out, h => by
    have h1 : Good s (fun x => C x ∨ (∃ sc, c.scales[trait]? = some sc ∧ x ∈ sc.cuts)) (cardF trait s out c) := by
      unfold cardF
      refine (foldF_good _ h).iff fun x => ?_
      cases c.scales[trait]? with
      | none => simp
      | some sc => simp
    exact (foldC_good l h1).iff fun x => by simp only [ex_cons, or_assoc]
theorem foldT_good {s : Span} {trait : Int} : ∀ (l : List Tree) {C : Int → Prop} {out : List Int}, Good s C out → Good s (fun x => C x ∨ ∃ t ∈ l, ∃ n ∈ t.nodes, n.trait = trait ∧ x = n.cut) (l.foldl (treeF trait s) out)
  | [], C, out, h => h.iff fun x => by simp
  | t :: l, C, out, h => by
    have h1 : Good s (fun x => C x ∨ ∃ n ∈ t.nodes, n.trait = trait ∧ x = n.cut) (treeF trait s out t) := foldN_good _ h
    exact (foldT_good l h1).iff fun x => by simp only [ex_cons, or_assoc]
/-- The cuts of a trait. -/
def CutOf (m : Model) (trait : Nat) (x : Int) : Prop := (∃ c ∈ m.cards, ∃ sc, c.scales[trait]? = some sc ∧ x ∈ sc.cuts) ∨ ∃ t ∈ m.trees, ∃ n ∈ t.nodes, n.trait = (trait : Int) ∧ x = n.cut
theorem stepsS_good (m : Model) (trait : Nat) (s : Span) : Good s (CutOf m trait) (stepsS m trait s) := by
  have h0 : Good s (fun _ => False) [s.lo] := ⟨by simp, fun x => by simp⟩
  exact (foldT_good m.trees (foldC_good m.cards h0)).iff fun x => by simp [CutOf]
/-- What the program makes of the cuts: in order, without doubles. -/
theorem stand_good (s : Span) (C : Int → Prop) (l : List Int) (hs : s.lo ≤ s.hi) (hl : ∀ x, x ∈ l ↔ x = s.lo ∨ C x) (r : List Int) (hr : r = (l.filter fun n => decide (s.lo ≤ n) && decide (n ≤ s.hi)).mergeSort fun a b => decide (a ≤ b)) : Good s C (ddn r r.length) := by
  have hp : r.Pairwise (· ≤ ·) := by
    have := List.pairwise_mergeSort (le := fun a b : Int => decide (a ≤ b)) (by intro a b c h1 h2; simp at h1 h2 ⊢; omega) (by intro a b; simp; omega) (l.filter fun n => decide (s.lo ≤ n) && decide (n ≤ s.hi))
    rw [← hr] at this
    exact this.imp (by simp)
  refine ⟨ddn_strict hp _, fun x => ?_⟩
  rw [ddn_mem, List.take_length, hr, List.mem_mergeSort, List.mem_filter, hl]
  simp only [Bool.and_eq_true, decide_eq_true_eq]
  constructor
  · rintro ⟨h1 | h1, h2, h3⟩
    · exact .inl h1
    · by_cases e : x = s.lo
      · exact .inl e
      · exact .inr ⟨h1, by omega, h3⟩
  · rintro (h1 | ⟨h1, h2, h3⟩)
    · subst h1; exact ⟨.inl rfl, Int.le_refl _, hs⟩
    · exact ⟨.inr h1, by omega, h3⟩
theorem good_one {s : Span} {C : Int → Prop} {a b : List Int} (ha : Good s C a) (hb : Good s C b) : a = b := strict_ext ha.1 hb.1 fun x => by rw [ha.2, hb.2]
end S
end Go.Proofs.Ytecmlmngcnionaa
namespace Go.Sx
open Go Go.RowKit Go.Sort
theorem chunks_int {k : IntKind} {M : List Nat} {w : World} : ∀ {cs : List Value} {xs : List Int}, Chunks (intE k) M w cs xs ↔ cs = xs.map (Value.int k) ∧ ∀ x ∈ xs, InK k x
  | cs, [] => ⟨fun h => ⟨h, fun _ hx => by cases hx⟩, fun h => h.1⟩
  | cs, x :: xs => by
    constructor
    · rintro ⟨c, rest, rfl, hR, hr⟩
      obtain ⟨rfl, hx⟩ := intE_R.1 hR
      obtain ⟨rfl, hxs⟩ := chunks_int.1 hr
      refine ⟨rfl, fun y hy => ?_⟩
      rcases List.mem_cons.1 hy with rfl | hy
      · exact hx
      · exact hxs y hy
    · rintro ⟨rfl, hx⟩
      exact ⟨[.int k x], xs.map (Value.int k), rfl, intE_R.2 ⟨rfl, hx x (by simp)⟩, chunks_int.2 ⟨rfl, fun y hy => hx y (List.mem_cons_of_mem _ hy)⟩⟩
theorem put_take {k : IntKind} {ys : List Int} {cur : Array Value} (h : ys.length ≤ cur.size) : (putCells (Value.int k) 0 ys.toArray cur).toList.take ys.length = ys.map (Value.int k) := by
  apply List.ext_getElem?
  intro i
  rw [List.getElem?_take, List.getElem?_map]
  split
  · rename_i hi
    have hc : cur[i]? = some cur[i] := Array.getElem?_eq_getElem (by omega)
    simp only [putCells, Array.getElem?_toList, Array.getElem?_mapIdx, hc, Option.map_some]
    rw [if_pos ⟨by omega, by simpa using hi⟩]
    simp [hi]
  · rename_i hi
    rw [List.getElem?_eq_none (by omega)]; rfl
theorem Own.put {k : IntKind} {e : TypeId} {M : List Nat} {w : World} {g cap n : Nat} {cur : Array Value} {xs ys : List Int} {os : Array Obj} (h2 : w.heap[g]? = some (.cells cur e (0, 0))) (h3 : xs.length ≤ cap + 1) (h4 : cap + 1 ≤ maxLen) (h5 : cur.size = (cap + 1) * 1)
    (hl : ys.length = xs.length) (hy : ∀ y ∈ ys, InK k y) :
    Own (intE k) e 0 M (grow (putRow (Value.int k) (Sort.ahead w n) g 0 ys.toArray) os) (.slice (some ⟨g, 0, none⟩) xs.length (cap + 1)) ys ∧ Kp [g] w (grow (putRow (Value.int k) (Sort.ahead w n) g 0 ys.toArray) os) := by
  have hg := heap_lt h2
  have hold : ∀ j, j < w.heap.size → (grow (putRow (Value.int k) (Sort.ahead w n) g 0 ys.toArray) os).heap[j]? = (w.heap.modify g (onCells (putCells (Value.int k) 0 ys.toArray)))[j]? := fun j hj => by
    rw [heap_grow_old _ _ (by simpa using hj)]; rfl
  refine ⟨.inr ⟨g, cap, putCells (Value.int k) 0 ys.toArray cur, by rw [hl], Nat.zero_le _, ?_, by omega, h4, ?_, ?_⟩, ⟨rfl, rfl, rfl, ?_, fun j hj hm => ?_⟩⟩
  · rw [hold g hg, Array.getElem?_modify, if_pos rfl, h2]; rfl
  · show (putCells (Value.int k) 0 ys.toArray cur).size = (cap + 1) * 1
    rw [← h5]; simp [putCells]
  · show Chunks (intE k) (g :: M) _ ((putCells (Value.int k) 0 ys.toArray cur).toList.take (ys.length * 1)) ys
    rw [Nat.mul_one, put_take (by omega)]
    exact chunks_int.2 ⟨rfl, hy⟩
  · simp
  · rw [hold j hj, Array.getElem?_modify, if_neg (fun e => hm (by simp [e]))]
theorem Own.holds {k : IntKind} {e : TypeId} {M : List Nat} {w : World} {g cap : Nat} {cur : Array Value} {xs : List Int} (h2 : w.heap[g]? = some (.cells cur e (0, 0))) (h3 : xs.length ≤ cap + 1) (h5 : cur.size = (cap + 1) * 1)
    (h6 : Chunks (intE k) M w (cur.toList.take (xs.length * 1)) xs) : Holds (Value.int k) w g 0 xs.toArray := fun j hj => by
  obtain ⟨h7, _⟩ := chunks_int.1 h6
  have hj' : j < xs.length := by simpa using hj
  have h8 := congrArg (fun l => l[j]?) h7
  simp only [Nat.mul_one, List.getElem?_take, hj', if_true, Array.getElem?_toList, List.getElem?_map, List.getElem?_eq_getElem hj', Option.map_some] at h8
  constructor
  · have : w.cell? ⟨g, 0 + j, none⟩ = cur[j]? := by simp [World.cell?, h2]
    rw [this, h8]; simp [hj']
  · simp [World.frozen?, h2]
end Go.Sx
namespace Go.Sx
open Go Go.RowKit Go.ChangeMaps
def mget {α : Type} : List (Int × α) → Int → Option α
  | [], _ => none
  | (a, y) :: r, k => if a = k then some y else mget r k
def mput {α : Type} : List (Int × α) → Int → α → List (Int × α)
  | [], k, z => [(k, z)]
  | (a, y) :: r, k, z => if a = k then (a, z) :: r else (a, y) :: mput r k z
/-- A value that stands for cells: whole, or the one that it is. -/
def Vl {α : Type} (E : Enc α) (ag : Bool) (M : List Nat) (w : World) (v : Value) (x : α) : Prop := ∃ cs, E.R M w cs x ∧ ((ag = true ∧ v = .agg cs.toArray) ∨ (ag = false ∧ cs = [v]))
def EntR {α : Type} (E : Enc α) (ag : Bool) (k : IntKind) (M : List Nat) (w : World) : List MapEntry → List (Int × α) → Prop
  | [], [] => True
  | e :: es, x :: xs => e.key = .int k x.1 ∧ Vl E ag M w e.val x.2 ∧ EntR E ag k M w es xs
  | _, _ => False
theorem Vl.adv {α : Type} {E : Enc α} {ag : Bool} {M M' : List Nat} {w w' : World} {v : Value} {x : α} (ha : Adv M M' w w') (h : Vl E ag M w v x) : Vl E ag M' w' v x := by
  obtain ⟨cs, h1, h2⟩ := h; exact ⟨cs, E.adv h1 ha, h2⟩
theorem Vl.mon {α : Type} {E : Enc α} {ag : Bool} {M M' : List Nat} {w : World} {v : Value} {x : α} (ha : ∀ b ∈ M', b ∈ M ∨ w.heap.size ≤ b) (h : Vl E ag M w v x) : Vl E ag M' w v x := by
  obtain ⟨cs, h1, h2⟩ := h; exact ⟨cs, E.mon ha h1, h2⟩
theorem EntR.adv {α : Type} {E : Enc α} {ag : Bool} {k : IntKind} {M M' : List Nat} {w w' : World} (ha : Adv M M' w w') : ∀ {es : List MapEntry} {xs : List (Int × α)}, EntR E ag k M w es xs → EntR E ag k M' w' es xs
  | [], [], h => h
  | _ :: _, _ :: _, ⟨h1, h2, h3⟩ => ⟨h1, h2.adv ha, EntR.adv ha h3⟩
  | [], _ :: _, h => h.elim
  | _ :: _, [], h => h.elim
theorem EntR.mon {α : Type} {E : Enc α} {ag : Bool} {k : IntKind} {M M' : List Nat} {w : World} (ha : ∀ b ∈ M', b ∈ M ∨ w.heap.size ≤ b) : ∀ {es : List MapEntry} {xs : List (Int × α)}, EntR E ag k M w es xs → EntR E ag k M' w es xs
  | [], [], h => h
  | _ :: _, _ :: _, ⟨h1, h2, h3⟩ => ⟨h1, h2.mon ha, EntR.mon ha h3⟩
  | [], _ :: _, h => h.elim
  | _ :: _, [], h => h.elim
theorem EntR.find {α : Type} {E : Enc α} {ag : Bool} {k k' : IntKind} {M : List Nat} {w : World} {key : Int} : ∀ {es : List MapEntry} {xs : List (Int × α)} (i : Nat), EntR E ag k M w es xs →
    (Instr.findNow (.int k') (.int k key) es i = some none ∧ mget xs key = none ∧ ∀ z, mput xs key z = xs ++ [(key, z)]) ∨
    ∃ j e y, Instr.findNow (.int k') (.int k key) es i = some (some (i + j, e.val)) ∧ mget xs key = some y ∧ Vl E ag M w e.val y ∧ es[j]? = some e ∧ e.key = .int k key ∧ ∀ z, mput xs key z = xs.set j (key, z)
  | [], [], i, _ => .inl ⟨rfl, rfl, fun _ => rfl⟩
  | [], _ :: _, _, h => h.elim
  | _ :: _, [], _, h => h.elim
  | e :: es, (a, y) :: xs, i, ⟨h1, h2, h3⟩ => by
    by_cases ha : a = key
    · subst ha
      refine .inr ⟨0, e, y, ?_, by simp [mget], h2, rfl, h1, fun z => by simp [mput]⟩
      simp [Instr.findNow, Instr.sameNow, h1]
    · have hs : Instr.sameNow (.int k') (.int k key) e.key = some false := by
        have : ¬ key = a := fun h => ha h.symm
        simp [Instr.sameNow, h1, this]
      rcases EntR.find (k' := k') (key := key) (i + 1) h3 with ⟨g1, g2, g3⟩ | ⟨j, e', y', g1, g2, g3, g4, g5, g6⟩
      · refine .inl ⟨by simp [Instr.findNow, hs, g1], by simp [mget, ha, g2], fun z => by simp [mput, ha, g3]⟩
      · refine .inr ⟨j + 1, e', y', ?_, by simp [mget, ha, g2], g3, by simpa using g4, g5, fun z => by simp [mput, ha, g6]⟩
        simp only [Instr.findNow, hs, g1]
        congr 3; omega
theorem EntR.push {α : Type} {E : Enc α} {ag : Bool} {k : IntKind} {M : List Nat} {w : World} {key : Int} {v : Value} {z : α} {c : Nat} (hv : Vl E ag M w v z) : ∀ {es : List MapEntry} {xs : List (Int × α)}, EntR E ag k M w es xs → EntR E ag k M w (es ++ [⟨.int k key, v, c⟩]) (xs ++ [(key, z)])
  | [], [], _ => ⟨rfl, hv, trivial⟩
  | _ :: _, _ :: _, ⟨h1, h2, h3⟩ => ⟨h1, h2, EntR.push hv h3⟩
  | [], _ :: _, h => h.elim
  | _ :: _, [], h => h.elim
theorem EntR.set {α : Type} {E : Enc α} {ag : Bool} {k : IntKind} {M : List Nat} {w : World} {key : Int} {v : Value} {z : α} (hv : Vl E ag M w v z) : ∀ {es : List MapEntry} {xs : List (Int × α)} (j : Nat), EntR E ag k M w es xs → EntR E ag k M w (es.modify j fun e => { e with key := .int k key, val := v }) (xs.set j (key, z))
  | [], [], _, _ => by simp [EntR]
  | _ :: _, _ :: _, 0, ⟨h1, h2, h3⟩ => ⟨rfl, hv, h3⟩
  | _ :: _, _ :: _, j + 1, ⟨h1, h2, h3⟩ => ⟨h1, h2, EntR.set hv j h3⟩
  | [], _ :: _, _, h => h.elim
  | _ :: _, [], _, h => h.elim
/-- A map of one's own. -/
def mapR {α : Type} (E : Enc α) (ag : Bool) (k : IntKind) (b : Nat) (xs : List (Int × α)) : Res where
  fp := [b]
  mu := []
  holds := fun M w => ∃ es c, w.heap[b]? = some (.map es c) ∧ EntR E ag k M w es.toList xs
  adv := fun ha hb h => by
    obtain ⟨es, c, h1, h2⟩ := h
    exact ⟨es, c, (hb b (by simp)).trans h1, h2.adv ha⟩
  lt := fun h x hx => by
    obtain ⟨es, c, h1, _⟩ := h
    have : x = b := by simpa using hx
    subst this; exact heap_lt h1
section
variable {P : Program} {N : Nat} {ops : Array Oper} {q : Md} {rest : List Oper} {ds : List Deferred} {L : Env} {w w0 : World} {A B : Out} {X : Nat → Out} {Z : List PanicEntry → Out} {d : Nat} {ty : TypeId} {pos : String} {af : Array Edge} {Mu M : List Nat} {σ : List Res}
theorem check_int {n : Nat} {em : Bool} {kt : TypeId} {k k' : IntKind} {key : Int} {w : World} (hk : P.underlying kt = some (.int k')) : (Instr.checkKey em (n + 1) kt (.int k key)).run P w = .ok () w := by
  simp [Instr.checkKey, run_underlying hk]
theorem Hp.mapAt {α : Type} {E : Enc α} {ag : Bool} {k : IntKind} {b : Nat} {xs : List (Int × α)} (h : Hp w0 Mu M σ w) (i : Nat) (hi : σ[i]? = some (mapR E ag k b xs)) : ∃ es c, w.heap[b]? = some (.map es c) ∧ EntR E ag k (mm σ M) w es.toList xs := h.all _ (List.mem_of_getElem? hi)
/-- A map that is made. -/
theorem y_mkm {α : Type} (E : Enc α) (ag : Bool) (k : IntKind) {t : TypeId} (hI : Hp w0 Mu M σ w) (hN : Nat.blt d N = true)
    (h : ∀ b w', Hp w0 Mu M (mapR E ag k b ([] : List (Int × α)) :: σ) w' → Adv (mm σ M) (mm (mapR E ag k b ([] : List (Int × α)) :: σ) M) w w' → Reg P N ops .seq rest ds ((d, .map (some b)) :: L) w' A B X Z) :
    Reg P N ops .seq (⟨some d, .makeMap t none, ty, pos, af, none⟩ :: rest) ds L w A B X Z := by
  have hx : Ext w (w.alloc (.map #[] 0)) := Kp.alloc _ _ _
  have hn : ∀ b ∈ (mapR E ag k w.heap.size ([] : List (Int × α))).fp, w.heap.size ≤ b ∧ b < (w.alloc (.map #[] 0)).heap.size := fun b hb => by
    have : b = w.heap.size := by simpa [mapR] using hb
    subst this; exact ⟨Nat.le_refl _, by show w.heap.size < (w.heap.push _).size; simp⟩
  refine Reg.eff (.map (some w.heap.size)) (w.alloc (.map #[] 0)) rfl rfl hN (fun a ha => ?_) (h _ _ (hI.add hx hn rfl ⟨#[], 0, heap_alloc_new w _, trivial⟩) (hI.addA hx hn))
  have hr : (Instr.makeMap t none).run P w = .ok (.map (some w.heap.size)) (w.alloc (.map #[] 0)) := rfl
  simp [execOp, hr]
/-- An entry laid. -/
theorem y_mup (i : Nat) {α : Type} {E : Enc α} {ag : Bool} {k k' : IntKind} {b : Nat} {xs : List (Int × α)} {z : α} {v : Value} {x y u : Operand} {t kt e : TypeId} {key : Int} (hI : Hp w0 Mu M σ w) (hi : σ[i]? = some (mapR E ag k b xs))
    (hx : ev L x = some (.map (some b))) (hy : ev L y = some (.int k key)) (hu : ev L u = some v) (hv : Vl E ag (mm σ M) w v z) (ht : P.underlying t = some (.map kt e)) (hk : P.underlying kt = some (.int k'))
    (h : ∀ w', Hp w0 Mu M (σ.set i (mapR E ag k b (mput xs key z))) w' → Adv (mm σ M) (mm (σ.set i (mapR E ag k b (mput xs key z))) M) w w' → Reg P N ops .seq rest ds L w' A B X Z) :
    Reg P N ops .seq (⟨none, .mapUpdate t x y u, ty, pos, af, none⟩ :: rest) ds L w A B X Z := by
  obtain ⟨es, c, h1, h2⟩ := hI.mapAt i hi
  have hck : ∀ em w, (Instr.checkKey em 10000 kt (.int k key)).run P w = .ok () w := fun em w => check_int (n := 9999) hk
  have key' : ∃ es' c', (Instr.mapUpdate t (.map (some b)) (.int k key) v).run P w = .ok () (setBlock w b (.map es' c')) ∧ EntR E ag k (mm σ M) w es'.toList (mput xs key z) := by
    rcases EntR.find (k' := k') (key := key) 0 h2 with ⟨g1, g2, g3⟩ | ⟨j, e', y', g1, g2, g3, g4, g5, g6⟩
    · refine ⟨es.push ⟨.int k key, v, c⟩, c + 1, ?_, ?_⟩
      · simp [Instr.mapUpdate, run_underlying ht, MapKept.run_getObj_map h1, hck, Instr.findKey, run_underlying hk, g1, MapKept.run_setObj_map _ h1, Result.andThen, setBlock]
      · rw [g3, Array.toList_push]; exact h2.push hv
    · refine ⟨es.modify j fun e => { e with key := .int k key, val := v }, c, ?_, ?_⟩
      · have g4' : es[j]? = some e' := by simpa using g4
        simp [Instr.mapUpdate, run_underlying ht, MapKept.run_getObj_map h1, hck, Instr.findKey, run_underlying hk, g1, g4', g5, Instr.keyThatStays, Instr.sameBits, MapKept.run_setObj_map _ h1, Result.andThen, setBlock]
      · rw [g6, Array.toList_modify]; exact h2.set hv j
  obtain ⟨es', c', hr, hE⟩ := key'
  have hkp : Kp [b] w (setBlock w b (.map es' c')) := ⟨rfl, rfl, rfl, by simp [setBlock], fun j hj hm => heap_setBlock_other h1 _ (by simpa using hm)⟩
  have hn : ∀ b' ∈ (mapR E ag k b (mput xs key z)).fp, b' ∈ (mapR E ag k b xs).fp ∨ w.heap.size ≤ b' := fun b' hb => .inl hb
  refine Reg.sto (setBlock w b (.map es' c')) rfl rfl (fun a ha => ?_) (h _ (hI.upd i hi hkp hn rfl fun M' hM' => ⟨es', c', heap_setBlock_same h1 _, ?_⟩) (hI.updA (r' := mapR E ag k b (mput xs key z)) i hi hkp hn))
  · simp [execOp, ha.eval hx, ha.eval hy, ha.eval hu, hr]
  · have hb : b ∈ mm σ M := mem_mm.2 (.inl ⟨_, List.mem_of_getElem? hi, by simp [mapR]⟩)
    refine (hE.adv ⟨hkp.mono fun x hx => .inl ?_, fun x hx => .inl hx⟩).mon fun x hx => .inl ?_
    · have : x = b := by simpa using hx
      subst this; exact hb
    · rcases hM' x hx with h9 | h9
      · have : x = b := by simpa [mapR] using h9
        subst this; exact hb
      · exact h9
end
end Go.Sx
namespace Go.Sx
open Go Go.RowKit
/-- What an interface's value is, asked with the answer whether it is. -/
theorem s_ta {P : Program} {N : Nat} {ops : Array Oper} {q : Md} {rest : List Oper} {ds : List Deferred} {L : Env} {w : World} {A B : Out} {X : Nat → Out} {Z : List PanicEntry → Out} {d : Nat} {ty : TypeId} {pos : String} {af : Array Edge} {x : Operand} {v r : Value} {t u : TypeId}
    (hx : ev L x = some v) (hr : ∀ w', (Instr.typeAssert v t u true).run P w' = .ok r w') (hN : Nat.blt d N = true) (h : Reg P N ops q rest ds ((d, r) :: L) w A B X Z) :
    Reg P N ops q (⟨some d, .typeAssert x t u true, ty, pos, af, none⟩ :: rest) ds L w A B X Z :=
  Reg.val r rfl rfl hN (fun a ha w' _ => by simp [execOp, ha.eval hx, hr]) h
end Go.Sx
namespace Go.Sx
open Go Go.RowKit
/-- A function value that yields the elements of a slice, one by one: number g, with the slice in the block that it captures. -/
def ItS {α : Type} (E : Enc α) (g : Nat) (M : List Nat) (w : World) (v : Value) (xs : List α) : Prop := ∃ b u, v = .func (.func g) #[] [Value.pointer (some ⟨b, 0, none⟩)].toArray ∧ RdC M w b 0 [u] ∧ RdS E M w u xs
theorem ItS.adv {α : Type} {E : Enc α} {g : Nat} {M M' : List Nat} {w w' : World} {v : Value} {xs : List α} (h : ItS E g M w v xs) (ha : Adv M M' w w') : ItS E g M' w' v xs := by
  obtain ⟨b, u, h1, h2, h3⟩ := h
  exact ⟨b, u, h1, h2.adv ha, h3.adv ha⟩
end Go.Sx
set_option maxRecDepth 20000
namespace Go.Proofs.Ytecmlmngcnionaa
open Go Go.Sx Go.RowKit
noncomputable def I87.is105 : I87 → Bool
  | .c105 _ => true
  | .c106 _ => false
def I87.as105 : I87 → Card
  | .c105 y => y
  | .c106 _ => (Card.mk 0 0 [])
theorem I87E_ta105 {M : List Nat} {w : World} {v : Value} {x : I87} (h : I87E.R M w [v] x) : ∃ ds : List Value, CardE.R M w ds (I87.as105 x) ∧ ∀ w', (Instr.typeAssert v 87 105 true).run Try.prog w' = .ok (.tuple #[.agg ds.toArray, .bool (I87.is105 x)]) w' := by
  cases x with
  | c105 y =>
    obtain ⟨ds, he, hR⟩ := h
    cases he
    exact ⟨ds, hR, fun w' => by simp [Instr.typeAssert, run_underlying Try.underlying105, I87.is105]⟩
  | c106 y =>
    obtain ⟨ds, he, hR⟩ := h
    cases he
    exact ⟨[Value.int IntKind.i64 0, Value.int IntKind.i64 0, Value.slice none 0 0], (CardE_R.2 ⟨Value.slice none 0 0, rfl, by decide, by decide, RdS.nil _ _ _⟩ : CardE.R _ _ _ (Card.mk 0 0 [])), fun w' => by simp [Instr.typeAssert, run_underlying Try.underlying105, Try.zeroValue105, I87.is105]⟩
noncomputable def I87.is106 : I87 → Bool
  | .c105 _ => false
  | .c106 _ => true
def I87.as106 : I87 → Tree
  | .c105 _ => (Tree.mk 0 [])
  | .c106 y => y
theorem I87E_ta106 {M : List Nat} {w : World} {v : Value} {x : I87} (h : I87E.R M w [v] x) : ∃ ds : List Value, TreeE.R M w ds (I87.as106 x) ∧ ∀ w', (Instr.typeAssert v 87 106 true).run Try.prog w' = .ok (.tuple #[.agg ds.toArray, .bool (I87.is106 x)]) w' := by
  cases x with
  | c105 y =>
    obtain ⟨ds, he, hR⟩ := h
    cases he
    exact ⟨[Value.int IntKind.i64 0, Value.slice none 0 0], (TreeE_R.2 ⟨Value.slice none 0 0, rfl, by decide, RdS.nil _ _ _⟩ : TreeE.R _ _ _ (Tree.mk 0 [])), fun w' => by simp [Instr.typeAssert, run_underlying Try.underlying106, Try.zeroValue106, I87.is106]⟩
  | c106 y =>
    obtain ⟨ds, he, hR⟩ := h
    cases he
    exact ⟨ds, hR, fun w' => by simp [Instr.typeAssert, run_underlying Try.underlying106, I87.is106]⟩
end Go.Proofs.Ytecmlmngcnionaa
