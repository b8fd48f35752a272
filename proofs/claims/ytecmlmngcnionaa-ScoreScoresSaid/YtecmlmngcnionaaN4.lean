/-
  Plain functions and contracts: printed by gen2.py out of the elaborated program.
-/
import Derived.Test.YtecmlmngcnionaaN3
set_option maxRecDepth 20000
namespace Go.Proofs.Ytecmlmngcnionaa
open Go Go.Sx Go.RowKit

inductive I87 where
  | c105 (x : Card)
  | c106 (x : Tree)
def I87E : Enc I87 where
  n := 1
  pos := by decide
  R := fun M w cs x => match x with
    | .c105 y => ∃ ds, cs = [.iface 105 (.agg ds.toArray)] ∧ CardE.R M w ds y
    | .c106 y => ∃ ds, cs = [.iface 106 (.agg ds.toArray)] ∧ TreeE.R M w ds y
  len := fun {M w cs} {x} h => by
    cases x with
    | c105 y => obtain ⟨ds, rfl, hR⟩ := h; rfl
    | c106 y => obtain ⟨ds, rfl, hR⟩ := h; rfl
  kp := fun {M w w' cs} {x} hk h => by
    cases x with
    | c105 y => obtain ⟨ds, rfl, hR⟩ := h; exact ⟨ds, rfl, CardE.kp hk hR⟩
    | c106 y => obtain ⟨ds, rfl, hR⟩ := h; exact ⟨ds, rfl, TreeE.kp hk hR⟩
  mon := fun {M M' w cs} {x} hm h => by
    cases x with
    | c105 y => obtain ⟨ds, rfl, hR⟩ := h; exact ⟨ds, rfl, CardE.mon hm hR⟩
    | c106 y => obtain ⟨ds, rfl, hR⟩ := h; exact ⟨ds, rfl, TreeE.mon hm hR⟩
  one := fun {M w cs} {x} h u hu => by
    cases x with
    | c105 y => obtain ⟨ds, rfl, hR⟩ := h; simp at hu; subst hu; rfl
    | c106 y => obtain ⟨ds, rfl, hR⟩ := h; simp at hu; subst hu; rfl
theorem I87E_c105 {M : List Nat} {w : World} {ds : List Value} {y : Card} (h : CardE.R M w ds y) : I87E.R M w [.iface 105 (.agg ds.toArray)] (.c105 y) := ⟨ds, rfl, h⟩
theorem I87E_c106 {M : List Nat} {w : World} {ds : List Value} {y : Tree} (h : TreeE.R M w ds y) : I87E.R M w [.iface 106 (.agg ds.toArray)] (.c106 y) := ⟨ds, rfl, h⟩
theorem I87E_one {M : List Nat} {w : World} {cs : List Value} {x : I87} (h : I87E.R M w cs x) : ∃ v, cs = [v] ∧ I87E.R M w [v] x := by
  cases x with
  | c105 y => obtain ⟨ds, rfl, hR⟩ := h; exact ⟨_, rfl, ds, rfl, hR⟩
  | c106 y => obtain ⟨ds, rfl, hR⟩ := h; exact ⟨_, rfl, ds, rfl, hR⟩
theorem I87E_cells {M : List Nat} {w : World} {v : Value} {x : I87} (h : I87E.R M w [v] x) : v.cells = [v].toArray := by
  cases x with
  | c105 y => obtain ⟨ds, he, hR⟩ := h; cases he; rfl
  | c106 y => obtain ⟨ds, he, hR⟩ := h; cases he; rfl
@[ext] structure Works where
  model : Model
  parts : (List I87)
def WorksE : Enc Works := mapE (fun x => (x.model, x.parts)) (prodE ModelE ((sliceE I87E)))
theorem WorksE_n : WorksE.n = 5 := rfl
attribute [grind ext] Works.ext
theorem WorksE_R {M : List Nat} {w : World} {cs : List Value} {x : Works} : WorksE.R M w cs x ↔ ∃ v1 : Value, ∃ v2 : Value, ∃ v4 : Value, cs = [Value.int IntKind.i64 x.model.traits, v1, v2, Value.int IntKind.i64 x.model.need, v4] ∧ InK .i64 x.model.traits ∧ RdS CardE M w v1 x.model.cards ∧ RdS TreeE M w v2 x.model.trees ∧ InK .i64 x.model.need ∧ RdS I87E M w v4 x.parts := by
  simp only [WorksE, mapE_R, prodE_R, intE_R, boolE_R, sliceE_R, ModelE_R]
  constructor
  · rintro ⟨_, _, rfl, ⟨v1, v2, rfl, h0, h1, h2, h3⟩, ⟨v4, rfl, h4⟩⟩
    exact ⟨v1, v2, v4, rfl, h0, h1, h2, h3, h4⟩
  · rintro ⟨v1, v2, v4, rfl, h0, h1, h2, h3, h4⟩
    exact ⟨[Value.int IntKind.i64 x.model.traits, v1, v2, Value.int IntKind.i64 x.model.need], [v4], rfl, ⟨v1, v2, rfl, h0, h1, h2, h3⟩, ⟨v4, rfl, h4⟩⟩
noncomputable def P.slices_IndexFunc_66 (s : (List I87)) (f : I87 → Option Bool) : Option Int :=
  Option.bind (loopM (S := Int) (R := (Unit) ⊕ (Int)) (fun x1 => cond (decide (x1 < (s.length : Int))) (Option.bind (ixo s x1) fun y3 => Option.bind (f y3) fun z11 => cond z11 (some (.inr (.inr x1))) (Option.bind (chk .i64 (x1 + 1)) fun n17 => some (.inl n17))) (some (.inr (.inl ())))) 0) fun j18 => Sum.elim (fun _ => some (-1)) (fun r19 => some r19)  j18

theorem C_slices_IndexFunc_66 {M : List Nat} {w : World} (hM : MLt M w) {s : (List I87)} {v_s_0 : Value} (f_s_0 : RdS I87E M w v_s_0 s) {v_f : Value} {f : I87 → Option Bool} (f_f : ∀ (x0 : I87) (vx0_0 : Value) (r : Bool) (w1 : World), Kp [] w w1 → I87E.R M w1 [vx0_0] x0 → f x0 = some r → CallsV Try.prog v_f [vx0_0] w1 fun e w2 => e = .returned (Value.bool r) ∧ Ext w1 w2) {r0 : Int} (h : P.slices_IndexFunc_66 s f = some r0) :
    Calls Try.prog 66 (List.toArray [v_s_0, v_f]) w fun e w' => e = .returned (Value.int IntKind.i64 r0) ∧ InK IntKind.i64 r0 ∧ Ext w w' := by
  have hI := Hp.start (Mu := []) hM
  refine calls_cw Try.func66 rfl Try.ntmps66 rfl ?_
  refine cw_seq ?_
  refine cw_regF ?_
  refine s_as rfl rfl ?_
  refine Reg.nil ?_
  refine cw_seq ?_
  refine cw_seq ?_
  refine cw_regF ?_
  refine s_mv rfl rfl ?_
  refine s_len rfl f_s_0 Try.underlying78 rfl ?_
  refine s_mv rfl rfl ?_
  refine Reg.nil ?_
  obtain ⟨j1, h2, h⟩ := bnd h
  refine cw_sub (L := [(0, _), (1, _), (7, _), (8, _)]) (Sub.cons rfl (Sub.cons rfl (Sub.cons rfl (Sub.cons rfl (Sub.nil _))))) ?_
  refine cw_unitD 4 (ι := Unit) (fun _ => []) (fun _ => fun w3 => Hp w [] M [] w3 ∧ Adv (mm [] M) (mm [] M) w w3 ∧ (.inl ()) = j1) ?_ ?_
  · skip
    refine cw_block ?_
    refine cw_sub (L := [(8, _), (0, _), (1, _), (7, _)]) (Sub.cons rfl (Sub.cons rfl (Sub.cons rfl (Sub.cons rfl (Sub.nil _))))) ?_
    refine cw_loopM 1 (ι := Int) _ (fun x6 => [(8, Value.int IntKind.i64 (x6))]) (fun x6 => x6) (fun x6 => fun w8 => Hp w [] M [] w8 ∧ Adv (mm [] M) (mm [] M) w w8 ∧ InK IntKind.i64 x6) 0 h2 ⟨hI, (Adv.refl _ _), (by decide)⟩ (Sub.cons rfl (Sub.cons rfl (Sub.cons rfl (Sub.cons rfl (Sub.nil _))))) ?_
    rintro x6 w8 ⟨hI9, hA10, r7⟩ y11 h12 hR13
    refine cw_seq ?_
    refine cw_regF ?_
    refine s_lss rfl rfl rfl ?_
    refine Reg.nil ?_
    refine cw_seq ?_
    refine cw_cond rfl (fun hc14 => ?_) (fun hc14 => ?_)
    · replace h12 := cdT hc14 h12
      refine cw_skip ?_
      refine cw_seq ?_
      refine cw_block ?_
      refine cw_seq ?_
      refine cw_regF ?_
      refine s_mv rfl rfl ?_
      refine s_as rfl rfl ?_
      refine Reg.nil ?_
      refine cw_seq ?_
      refine cw_regF ?_
      refine s_mv rfl rfl ?_
      refine s_mv rfl rfl ?_
      refine s_mv rfl rfl ?_
      obtain ⟨y15, hy15, h12⟩ := bnd h12
      refine p_ia rfl rfl (f_s_0.adv hI9.adv) hy15 Try.underlying78 Try.sizeOf87 rfl ?_
      intro b16 o17 cs18 hR19 hC20
      obtain ⟨v21, rfl, hf22⟩ := I87E_one hR19
      refine s_ld rfl (hC20.cells.at 0 rfl) Try.isAgg87 rfl ?_
      obtain ⟨z23, hz23, h12⟩ := bnd h12
      refine s_callV rfl rfl rfl ?_
      refine (f_f _ _ _ _ hI9.kp hf22 hz23).mono ?_
      rintro _ w24 ⟨rfl, e25⟩
      refine ⟨_, rfl, ?_⟩
      have hI27 := hI9.ext e25
      refine Reg.nil ?_
      refine cw_cond rfl (fun hc28 => ?_) (fun hc28 => ?_)
      · replace h12 := cdT hc28 h12
        refine cw_seq ?_
        refine cw_regF ?_
        refine s_mv rfl rfl ?_
        refine s_as rfl rfl ?_
        refine Reg.nil ?_
        refine cw_ret ?_
        obtain rfl := Option.some.inj h12
        obtain rfl := hR13 _ rfl
        replace h := elimR h
        obtain rfl := Option.some.inj h
        refine fin1 Try.results66 rfl ?_
        exact ⟨rfl, r7, hI27.kp⟩
      · replace h12 := cdF hc28 h12
        refine cw_skip ?_
        refine cw_regF ?_
        obtain ⟨n29, hn29, h12⟩ := bnd h12
        replace hn29 := chk_out hn29
        refine p_add rfl rfl rfl hn29 ?_
        refine s_mv rfl rfl ?_
        refine Reg.nil ?_
        obtain rfl := Option.some.inj h12
        refine ⟨rfl, n29, ⟨⟨hI27, hI27.adv, hn29.2⟩, rfl⟩, Sub.cons rfl (Sub.cons rfl (Sub.cons rfl (Sub.cons rfl (Sub.nil _))))⟩
    · replace h12 := cdF hc14 h12
      refine cw_exit ?_
      refine exB_same ?_
      obtain rfl := Option.some.inj h12
      obtain rfl := hR13 _ rfl
      refine ⟨rfl, (), ⟨hI9, hI9.adv, rfl⟩, Sub.nil _⟩
  · skip
    rintro _ w3 ⟨hI4, hA5, rfl⟩
    replace h := elimL h
    refine cw_seq ?_
    refine cw_regF ?_
    refine s_as rfl rfl ?_
    refine Reg.nil ?_
    refine cw_ret ?_
    obtain rfl := Option.some.inj h
    refine fin1 Try.results66 rfl ?_
    exact ⟨rfl, (by decide), hI4.kp⟩

noncomputable def P.slices_ContainsFunc_54 (s : (List I87)) (f : I87 → Option Bool) : Option Bool :=
  Option.bind (P.slices_IndexFunc_66 s f) fun z1 => some (decide (0 ≤ z1))

theorem C_slices_ContainsFunc_54 {M : List Nat} {w : World} (hM : MLt M w) {s : (List I87)} {v_s_0 : Value} (f_s_0 : RdS I87E M w v_s_0 s) {v_f : Value} {f : I87 → Option Bool} (f_f : ∀ (x0 : I87) (vx0_0 : Value) (r : Bool) (w1 : World), Kp [] w w1 → I87E.R M w1 [vx0_0] x0 → f x0 = some r → CallsV Try.prog v_f [vx0_0] w1 fun e w2 => e = .returned (Value.bool r) ∧ Ext w1 w2) {r0 : Bool} (h : P.slices_ContainsFunc_54 s f = some r0) :
    Calls Try.prog 54 (List.toArray [v_s_0, v_f]) w fun e w' => e = .returned (Value.bool r0) ∧ Ext w w' := by
  have hI := Hp.start (Mu := []) hM
  refine calls_cw Try.func54 rfl Try.ntmps54 rfl ?_
  refine cw_seq ?_
  refine cw_regF ?_
  refine s_as rfl rfl ?_
  refine Reg.nil ?_
  refine cw_seq ?_
  refine cw_regF ?_
  refine s_mv rfl rfl ?_
  refine s_mv rfl rfl ?_
  obtain ⟨z1, hz2, h⟩ := bnd h
  refine s_call rfl Try.call66 rfl ?_
  refine (C_slices_IndexFunc_66 hI.mlt f_s_0 (fun a0 a1 r w9 e9 f0 hr => f_f a0 a1 r w9 (hI.kp.trans (Ext.kp e9)) f0 hr) hz2).mono ?_
  rintro _ w3 ⟨rfl, r5, e4⟩
  refine ⟨_, rfl, ?_⟩
  have hI6 := hI.ext e4
  refine s_geq rfl rfl rfl ?_
  refine s_as rfl rfl ?_
  refine Reg.nil ?_
  refine cw_ret ?_
  obtain rfl := Option.some.inj h
  refine fin1 Try.results54 rfl ?_
  exact ⟨rfl, hI6.kp⟩

noncomputable def P.M87_weight (x : I87)  : Option Int := match x with
  | .c105 y => P.score_card_weight y 
  | .c106 y => P.score_tree_weight y 

theorem C_M87_weight {nm : String} (q105 : ∀ u w, (method (Try.prog.types.size + Made.depth) 105 u nm).run Try.prog w = .ok (128, u) w) (q106 : ∀ u w, (method (Try.prog.types.size + Made.depth) 106 u nm).run Try.prog w = .ok (138, u) w) {M : List Nat} {w : World} (hM : MLt M w) {v : Value} {x : I87} (hx : I87E.R M w [v] x)  {r : Int} (h : P.M87_weight x  = some r) :
    CallsI Try.prog v nm [] w fun e w' => e = .returned (Value.int IntKind.i64 r) ∧ InK IntKind.i64 r ∧ Ext w w' := by
  cases x with
  | c105 y =>
    obtain ⟨ds, he, hR⟩ := hx
    cases he
    obtain ⟨v2, rfl, g0, g1, g2⟩ := CardE_R.1 hR
    exact ⟨128, _, ⟨105, _, rfl, q105 _, Try.call128⟩, C_score_card_weight hM g0 g1 g2 h⟩
  | c106 y =>
    obtain ⟨ds, he, hR⟩ := hx
    cases he
    obtain ⟨v1, rfl, g0, g1⟩ := TreeE_R.1 hR
    exact ⟨138, _, ⟨106, _, rfl, q106 _, Try.call138⟩, C_score_tree_weight hM g0 g1 h⟩


noncomputable def P.M87_right (x : I87) (x0 : Int) : Option Bool := match x with
  | .c105 y => P.score_card_right y x0
  | .c106 y => P.score_tree_right y x0

theorem C_M87_right {nm : String} (q105 : ∀ u w, (method (Try.prog.types.size + Made.depth) 105 u nm).run Try.prog w = .ok (127, u) w) (q106 : ∀ u w, (method (Try.prog.types.size + Made.depth) 106 u nm).run Try.prog w = .ok (137, u) w) {M : List Nat} {w : World} (hM : MLt M w) {v : Value} {x : I87} (hx : I87E.R M w [v] x) {x0 : Int} (f_x0_0 : InK IntKind.i64 x0) {r : Bool} (h : P.M87_right x x0 = some r) :
    CallsI Try.prog v nm [Value.int IntKind.i64 x0] w fun e w' => e = .returned (Value.bool r) ∧ Ext w w' := by
  cases x with
  | c105 y =>
    obtain ⟨ds, he, hR⟩ := hx
    cases he
    obtain ⟨v2, rfl, g0, g1, g2⟩ := CardE_R.1 hR
    exact ⟨127, _, ⟨105, _, rfl, q105 _, Try.call127⟩, C_score_card_right hM g0 g1 g2 f_x0_0 h⟩
  | c106 y =>
    obtain ⟨ds, he, hR⟩ := hx
    cases he
    obtain ⟨v1, rfl, g0, g1⟩ := TreeE_R.1 hR
    exact ⟨137, _, ⟨106, _, rfl, q106 _, Try.call137⟩, C_score_tree_right hM g0 g1 f_x0_0 h⟩


noncomputable def P.score_open_in1 (p : I87) (m_c : Model) : Option Bool :=
  Option.bind (Option.bind (P.M87_weight p) fun z1 => Option.bind (P.score_within 0 1000 ([z1] : List Int)) fun z10 => cond (!z10) (some true) (Option.bind (P.M87_right p m_c.traits) fun z16 => some (!z16))) fun x21 => some x21

theorem C_score_open_in1 {M : List Nat} {w : World} (hM : MLt M w) {p : I87} {v_p_0 : Value} (f_p_0 : I87E.R M w [v_p_0] p) {m_c : Model} {v_m_c_1 : Value} {v_m_c_2 : Value} (f_m_c_0 : InK IntKind.i64 m_c.traits) (f_m_c_1 : RdS CardE M w v_m_c_1 m_c.cards) (f_m_c_2 : RdS TreeE M w v_m_c_2 m_c.trees) (f_m_c_3 : InK IntKind.i64 m_c.need) {b_m_c : Nat} (c_m_c : RdC M w b_m_c 0 [Value.int IntKind.i64 m_c.traits, v_m_c_1, v_m_c_2, Value.int IntKind.i64 m_c.need]) {r0 : Bool} (h : P.score_open_in1 p m_c = some r0) :
    Calls Try.prog 52 (List.toArray [v_p_0, Value.pointer (some ⟨b_m_c, 0, none⟩)]) w fun e w' => e = .returned (Value.bool r0) ∧ Ext w w' := by
  have hI := Hp.start (Mu := []) hM
  refine calls_cw Try.func52 rfl Try.ntmps52 rfl ?_
  refine cw_seq ?_
  refine cw_regF ?_
  refine s_as rfl rfl ?_
  refine Reg.nil ?_
  obtain ⟨j1, h2, h⟩ := bnd h
  refine cw_sub (L := [(0, _), (1, _)]) (Sub.cons rfl (Sub.cons rfl (Sub.nil _))) ?_
  refine cw_seqD 2 (ι := Bool) (fun x3 => [(3, Value.bool x3)]) (fun x3 => fun w4 => Hp w [] M [] w4 ∧ Adv (mm [] M) (mm [] M) w w4 ∧ x3 = j1) ?_ ?_
  · skip
    refine cw_regF ?_
    refine s_mv rfl rfl ?_
    obtain ⟨z7, hz7, h2⟩ := bnd h2
    refine s_invD rfl rfl rfl ?_
    refine (C_M87_weight (fun _ _ => by kernel_rfl) (fun _ _ => by kernel_rfl) hI.mlt f_p_0 hz7).mono ?_
    rintro _ w8 ⟨rfl, r10, e9⟩
    refine ⟨_, rfl, ?_⟩
    have hI11 := hI.ext e9
    refine y_bs (E := (intE .i64)) (xs := [z7]) sl26 hI11 rfl rfl (Cls.cons rfl Cls.nil) (Chs.cons ⟨rfl, r10⟩ Chs.nil) rfl rfl ?_
    intro v12 w13 hI14 x15
    obtain ⟨z16, hz17, h2⟩ := bnd h2
    refine s_call rfl Try.call43 rfl ?_
    refine (C_score_within (hI14.sel [] rfl).mlt (by decide) (by decide) (hI14.lendRd [] 0 rfl rfl) hz17).mono ?_
    rintro _ w18 ⟨rfl, e19⟩
    refine ⟨_, rfl, ?_⟩
    have hI20 := hI14.ext e19
    refine s_not rfl rfl ?_
    refine s_mv rfl rfl ?_
    refine Reg.gsplit (t := 9) rfl (fun hg21 => ?_) (fun hg21 => ?_)
    · replace h2 := cdT hg21 h2
      refine Reg.pass rfl rfl rfl rfl ?_
      refine Reg.pass rfl rfl rfl rfl ?_
      refine Reg.pass rfl rfl rfl rfl ?_
      refine Reg.pass rfl rfl rfl rfl ?_
      refine Reg.pass rfl rfl rfl rfl ?_
      refine s_pkT rfl rfl rfl ?_
      refine s_as rfl rfl ?_
      refine Reg.nil ?_
      obtain rfl := Option.some.inj h2
      refine ⟨rfl, true, ⟨(hI20.sel [] rfl), (hI20.adv.trans (Hp.selA (σ := [ownR [] (intE .i64) 3 v12 ([z7] : List Int)]) [])), rfl⟩, Sub.cons rfl (Sub.nil _)⟩
    · replace h2 := cdF hg21 h2
      refine Reg.take rfl rfl ?_
      refine s_mv rfl rfl ?_
      refine Reg.take rfl rfl ?_
      refine s_fa rfl Try.underlying25 rfl Try.sizeOf3 rfl ?_
      refine Reg.take rfl rfl ?_
      refine s_ld rfl ((c_m_c.adv hI20.adv).cells.at 0 rfl) Try.isAgg3 rfl ?_
      refine Reg.take rfl rfl ?_
      obtain ⟨z22, hz22, h2⟩ := bnd h2
      refine s_invD rfl rfl rfl ?_
      refine (C_M87_right (fun _ _ => by kernel_rfl) (fun _ _ => by kernel_rfl) hI20.mlt (I87E.adv f_p_0 hI20.adv) f_m_c_0 hz22).mono ?_
      rintro _ w23 ⟨rfl, e24⟩
      refine ⟨_, rfl, ?_⟩
      have hI26 := hI20.ext e24
      refine Reg.take rfl rfl ?_
      refine s_not rfl rfl ?_
      refine s_pkF rfl rfl rfl ?_
      refine s_as rfl rfl ?_
      refine Reg.nil ?_
      obtain rfl := Option.some.inj h2
      refine ⟨rfl, !z22, ⟨(hI26.sel [] rfl), (hI26.adv.trans (Hp.selA (σ := [ownR [] (intE .i64) 3 v12 ([z7] : List Int)]) [])), rfl⟩, Sub.cons rfl (Sub.nil _)⟩
  · skip
    rintro x3 w4 ⟨hI5, hA6, rfl⟩
    refine cw_ret ?_
    obtain rfl := Option.some.inj h
    refine fin1 Try.results52 rfl ?_
    exact ⟨rfl, hI5.kp⟩

noncomputable def P.score_open (m : Model) : Option (Works × Int) :=
  Option.bind (loopM (S := Int × (List I87)) (R := ((List I87))) (fun (x18, x19) => cond (decide (x18 < (m.cards.length : Int))) (Option.bind (ixo m.cards x18) fun y21 => Option.bind (appo 16 x19 ([(I87.c105 (Card.mk y21.weight y21.base y21.scales))] : List I87)) fun l46 => Option.bind (chk .i64 (x18 + 1)) fun n54 => some (.inl (n54, l46))) (some (.inr x19))) (0, [])) fun x55 => Option.bind (loopM (S := Int × (List I87)) (R := ((List I87))) (fun (x56, x57) => cond (decide (x56 < (m.trees.length : Int))) (Option.bind (ixo m.trees x56) fun y59 => Option.bind (appo 16 x57 ([(I87.c106 (Tree.mk y59.weight y59.nodes))] : List I87)) fun l83 => Option.bind (chk .i64 (x56 + 1)) fun n91 => some (.inl (n91, l83))) (some (.inr x57))) (0, x55)) fun x92 => Option.bind (Option.bind (P.score_within 1 5 ([m.traits] : List Int)) fun z97 => cond (!z97) (some true) (Option.bind (P.score_counts ([m.need] : List Int)) fun z107 => cond (!z107) (some true) (cond (decide (2 < (m.cards.length : Int))) (some true) (cond (decide (2 < (m.trees.length : Int))) (some true) (Option.bind (P.slices_ContainsFunc_54 x92 (fun x0_ => P.score_open_in1 x0_ (Model.mk m.traits m.cards m.trees m.need))) fun z115 => some z115))))) fun x120 => cond x120 (some ((Works.mk (Model.mk 0 [] [] 0) []), 60)) (some ((Works.mk (Model.mk m.traits m.cards m.trees m.need) x92), 0))

theorem C_score_open {M : List Nat} {w : World} (hM : MLt M w) {m : Model} {v_m_1 : Value} {v_m_2 : Value} (f_m_0 : InK IntKind.i64 m.traits) (f_m_1 : RdS CardE M w v_m_1 m.cards) (f_m_2 : RdS TreeE M w v_m_2 m.trees) (f_m_3 : InK IntKind.i64 m.need) {r0 : Works} {r1 : Int} (h : P.score_open m = some (r0, r1)) :
    Calls Try.prog 37 (List.toArray [Value.agg (List.toArray [Value.int IntKind.i64 m.traits, v_m_1, v_m_2, Value.int IntKind.i64 m.need])]) w fun e w' => ∃ v0_1 : Value, ∃ v0_2 : Value, ∃ v0_4 : Value, e = .returned (Value.tuple (List.toArray [Value.agg (List.toArray [Value.int IntKind.i64 r0.model.traits, v0_1, v0_2, Value.int IntKind.i64 r0.model.need, v0_4]), Value.int IntKind.i64 r1])) ∧ InK IntKind.i64 r0.model.traits ∧ RdS CardE M w' v0_1 r0.model.cards ∧ RdS TreeE M w' v0_2 r0.model.trees ∧ InK IntKind.i64 r0.model.need ∧ RdS I87E M w' v0_4 r0.parts ∧ InK IntKind.i64 r1 ∧ Ext w w' := by
  have hI := Hp.start (Mu := []) hM
  refine calls_cw Try.func37 rfl Try.ntmps37 rfl ?_
  refine cw_seq ?_
  refine cw_regF ?_
  refine y_box hI rfl rfl rfl ?_
  intro b1 w2 hI3 x4
  have hC6 := hI3.freezeRow 0 rfl
  have hI5 := hI3.erase 0
  refine y_al hI5 Try.zeroValue80 rfl rfl ?_
  intro b7 w8 hI9 x10
  refine s_as rfl rfl ?_
  refine Reg.nil ?_
  refine cw_seq ?_
  refine cw_regF ?_
  refine s_lda rfl (hC6.adv x10).cells Try.isAgg25 rfl Try.sizeOf25 rfl ?_
  refine s_bd [(0, 4), (4, 1)] Try.zeroValue80 rfl Try.underlying80 (fun _ => by simp [Try.sizeOf25, Try.sizeOf78]) rfl (Cls.cons rfl (Cls.nil)) rfl rfl ?_
  refine y_al hI9 Try.zeroValue80 rfl rfl ?_
  intro b11 w12 hI13 x14
  refine y_st 0 hI13 rfl rfl rfl rfl Try.sizeOf80 rfl rfl (one1 rfl (one1 (RdS.oneC f_m_1) (one1 (RdS.oneC f_m_2) (one1 rfl (one1 rfl one0))))) ?_
  intro w15 hI16 x17
  refine Reg.nil ?_
  refine cw_seq ?_
  refine cw_seq ?_
  refine cw_regF ?_
  refine s_fa rfl Try.underlying25 rfl Try.sizeOf22 rfl ?_
  refine s_ld rfl ((hC6.adv (x10.trans (x14.trans x17))).cells.at 1 rfl) Try.isAgg22 rfl ?_
  refine s_len rfl (f_m_1.adv hI16.adv) Try.underlying22 rfl ?_
  refine s_mv rfl rfl ?_
  refine Reg.nil ?_
  obtain ⟨j18, h19, h⟩ := bnd h
  refine cw_sub (L := [(13, _), (14, _), (15, _), (1, _), (2, _), (4, _)]) (Sub.cons rfl (Sub.cons rfl (Sub.cons rfl (Sub.cons rfl (Sub.cons rfl (Sub.cons rfl (Sub.nil _))))))) ?_
  refine cw_unitD 3 (ι := (List I87) × Value) (fun ⟨x20, v21⟩ => []) (fun ⟨x20, v21⟩ => fun w22 => Hp w [] M [ownR [] I87E 87 v21 x20, rowR 80 b11 [Value.int IntKind.i64 (m.traits), v_m_1, v_m_2, Value.int IntKind.i64 (m.need), v21], rowR 80 b7 [Value.int IntKind.i64 (0), Value.slice none 0 0, Value.slice none 0 0, Value.int IntKind.i64 (0), Value.slice none 0 0]] w22 ∧ Adv (mm [rowR 80 b11 [Value.int IntKind.i64 (m.traits), v_m_1, v_m_2, Value.int IntKind.i64 (m.need), Value.slice none 0 0], rowR 80 b7 [Value.int IntKind.i64 (0), Value.slice none 0 0, Value.slice none 0 0, Value.int IntKind.i64 (0), Value.slice none 0 0]] M) (mm [ownR [] I87E 87 v21 x20, rowR 80 b11 [Value.int IntKind.i64 (m.traits), v_m_1, v_m_2, Value.int IntKind.i64 (m.need), v21], rowR 80 b7 [Value.int IntKind.i64 (0), Value.slice none 0 0, Value.slice none 0 0, Value.int IntKind.i64 (0), Value.slice none 0 0]] M) w15 w22 ∧ x20 = j18) ?_ ?_
  · skip
    refine cw_block ?_
    refine cw_sub (L := [(15, _), (1, _), (2, _), (4, _), (13, _), (14, _)]) (Sub.cons rfl (Sub.cons rfl (Sub.cons rfl (Sub.cons rfl (Sub.cons rfl (Sub.cons rfl (Sub.nil _))))))) ?_
    have hI32 := hI16.addNil I87E 87
    refine cw_loopM 1 (ι := Int × (List I87) × Value) _ (fun ⟨x25, x27, v28⟩ => [(15, Value.int IntKind.i64 (x25))]) (fun ⟨x25, x27, v28⟩ => (x25, x27)) (fun ⟨x25, x27, v28⟩ => fun w29 => Hp w [] M [ownR [] I87E 87 v28 x27, rowR 80 b11 [Value.int IntKind.i64 (m.traits), v_m_1, v_m_2, Value.int IntKind.i64 (m.need), v28], rowR 80 b7 [Value.int IntKind.i64 (0), Value.slice none 0 0, Value.slice none 0 0, Value.int IntKind.i64 (0), Value.slice none 0 0]] w29 ∧ Adv (mm [rowR 80 b11 [Value.int IntKind.i64 (m.traits), v_m_1, v_m_2, Value.int IntKind.i64 (m.need), Value.slice none 0 0], rowR 80 b7 [Value.int IntKind.i64 (0), Value.slice none 0 0, Value.slice none 0 0, Value.int IntKind.i64 (0), Value.slice none 0 0]] M) (mm [ownR [] I87E 87 v28 x27, rowR 80 b11 [Value.int IntKind.i64 (m.traits), v_m_1, v_m_2, Value.int IntKind.i64 (m.need), v28], rowR 80 b7 [Value.int IntKind.i64 (0), Value.slice none 0 0, Value.slice none 0 0, Value.int IntKind.i64 (0), Value.slice none 0 0]] M) w15 w29 ∧ InK IntKind.i64 x25) (0, ([] : List I87), (Value.slice none 0 0)) h19 ⟨hI32, (Hp.addNilA (σ := [rowR 80 b11 [Value.int IntKind.i64 (m.traits), v_m_1, v_m_2, Value.int IntKind.i64 (m.need), Value.slice none 0 0], rowR 80 b7 [Value.int IntKind.i64 (0), Value.slice none 0 0, Value.slice none 0 0, Value.int IntKind.i64 (0), Value.slice none 0 0]]) I87E 87), (by decide)⟩ (Sub.cons rfl (Sub.cons rfl (Sub.cons rfl (Sub.cons rfl (Sub.cons rfl (Sub.cons rfl (Sub.nil _))))))) ?_
    rintro ⟨x25, x27, v28⟩ w29 ⟨hI30, hA31, r26⟩ y33 h34 hR35
    refine cw_seq ?_
    refine cw_regF ?_
    refine s_lss rfl rfl rfl ?_
    refine Reg.nil ?_
    refine cw_seq ?_
    refine cw_cond rfl (fun hc36 => ?_) (fun hc36 => ?_)
    · replace h34 := cdT hc36 h34
      refine cw_skip ?_
      refine cw_seq ?_
      refine cw_block ?_
      refine cw_seq ?_
      refine cw_regF ?_
      obtain ⟨y37, hy37, h34⟩ := bnd h34
      refine p_ia rfl rfl (f_m_1.adv hI30.adv) hy37 Try.underlying22 Try.sizeOf54 rfl ?_
      intro b38 o39 cs40 hR41 hC42
      obtain ⟨v45, rfl, r43, r44, hf46⟩ := CardE_R.1 hR41
      refine s_lda rfl hC42.cells Try.isAgg54 rfl Try.sizeOf54 rfl ?_
      refine y_al hI30 Try.zeroValue54 rfl rfl ?_
      intro b47 w48 hI49 x50
      refine y_st 0 hI49 rfl rfl rfl rfl Try.sizeOf54 rfl rfl (one1 rfl (one1 rfl (one1 (RdS.oneC hf46) one0))) ?_
      intro w51 hI52 x53
      have hC55 := hI52.freezeRow 0 rfl
      have hI54 := hI52.erase 0
      refine Reg.nil ?_
      refine cw_regF ?_
      refine s_fa rfl Try.underlying80 rfl Try.sizeOf78 rfl ?_
      refine s_ld rfl ((hI54.row 1 rfl).rd.cells.at 4 rfl) Try.isAgg78 rfl ?_
      refine s_lda rfl hC55.cells Try.isAgg54 rfl Try.sizeOf54 rfl ?_
      refine s_mi (du := .bool) rfl (by kernel_rfl) rfl ?_
      refine y_bs (E := I87E) (xs := [(I87.c105 (Card.mk y37.weight y37.base y37.scales))]) sl78 hI54 rfl rfl (Cls.cons rfl Cls.nil) (Chs.cons (I87E_c105 ((CardE_R (x := (Card.mk y37.weight y37.base y37.scales))).2 ⟨_, rfl, r43, r44, (hf46.adv (x50.trans (x53.trans (Hp.eraseA (σ := [rowR 54 b47 [Value.int IntKind.i64 (y37.weight), Value.int IntKind.i64 (y37.base), v45], ownR [] I87E 87 v28 x27, rowR 80 b11 [Value.int IntKind.i64 (m.traits), v_m_1, v_m_2, Value.int IntKind.i64 (m.need), v28], rowR 80 b7 [Value.int IntKind.i64 (0), Value.slice none 0 0, Value.slice none 0 0, Value.int IntKind.i64 (0), Value.slice none 0 0]]) 0))))⟩)) Chs.nil) rfl rfl ?_
      intro v56 w57 hI58 x59
      have hf60 := hI58.freeze 0 rfl
      have hI61 := hI58.erase 0
      obtain ⟨l62, hl62, h34⟩ := bnd h34
      obtain ⟨hbl62, el62⟩ := appo_out hl62
      refine y_app 0 sl78 hI61 rfl rfl rfl hf60 hbl62 rfl ?_
      rw [← el62]
      intro v63 w64 hI65 x66
      refine s_fa rfl Try.underlying80 rfl Try.sizeOf78 rfl ?_
      refine y_st 1 hI65 rfl rfl rfl (Own.cells1 (hI65.ownAt 0 rfl)) Try.sizeOf78 rfl rfl (one1 (Own.oneC (hI65.ownAt 0 rfl)) one0) ?_
      intro w67 hI68 x69
      refine Reg.nil ?_
      refine cw_regF ?_
      obtain ⟨n70, hn70, h34⟩ := bnd h34
      replace hn70 := chk_out hn70
      refine p_add rfl rfl rfl hn70 ?_
      refine s_mv rfl rfl ?_
      refine Reg.nil ?_
      obtain rfl := Option.some.inj h34
      refine ⟨rfl, (n70, l62, v63), ⟨⟨hI68, (hA31.trans (x50.trans (x53.trans ((Hp.eraseA (σ := [rowR 54 b47 [Value.int IntKind.i64 (y37.weight), Value.int IntKind.i64 (y37.base), v45], ownR [] I87E 87 v28 x27, rowR 80 b11 [Value.int IntKind.i64 (m.traits), v_m_1, v_m_2, Value.int IntKind.i64 (m.need), v28], rowR 80 b7 [Value.int IntKind.i64 (0), Value.slice none 0 0, Value.slice none 0 0, Value.int IntKind.i64 (0), Value.slice none 0 0]]) 0).trans (x59.trans ((Hp.eraseA (σ := [ownR [] I87E 87 v56 ([(I87.c105 (Card.mk y37.weight y37.base y37.scales))] : List I87), ownR [] I87E 87 v28 x27, rowR 80 b11 [Value.int IntKind.i64 (m.traits), v_m_1, v_m_2, Value.int IntKind.i64 (m.need), v28], rowR 80 b7 [Value.int IntKind.i64 (0), Value.slice none 0 0, Value.slice none 0 0, Value.int IntKind.i64 (0), Value.slice none 0 0]]) 0).trans (x66.trans x69))))))), hn70.2⟩, rfl⟩, Sub.cons rfl (Sub.cons rfl (Sub.cons rfl (Sub.cons rfl (Sub.cons rfl (Sub.cons rfl (Sub.nil _))))))⟩
    · replace h34 := cdF hc36 h34
      refine cw_exit ?_
      refine exB_same ?_
      obtain rfl := Option.some.inj h34
      obtain rfl := hR35 _ rfl
      refine ⟨rfl, (x27, v28), ⟨hI30, hA31, rfl⟩, Sub.cons rfl (Sub.cons rfl (Sub.cons rfl (Sub.nil _)))⟩
  · skip
    rintro ⟨x20, v21⟩ w22 ⟨hI23, hA24, rfl⟩
    refine cw_seq ?_
    refine cw_seq ?_
    refine cw_regF ?_
    refine s_fa rfl Try.underlying25 rfl Try.sizeOf23 rfl ?_
    refine s_ld rfl ((hC6.adv (x10.trans (x14.trans (x17.trans hA24)))).cells.at 2 rfl) Try.isAgg23 rfl ?_
    refine s_len rfl (f_m_2.adv hI23.adv) Try.underlying23 rfl ?_
    refine s_mv rfl rfl ?_
    refine Reg.nil ?_
    obtain ⟨j71, h72, h⟩ := bnd h
    refine cw_sub (L := [(28, _), (29, _), (30, _), (1, _), (2, _), (4, _)]) (Sub.cons rfl (Sub.cons rfl (Sub.cons rfl (Sub.cons rfl (Sub.cons rfl (Sub.cons rfl (Sub.nil _))))))) ?_
    refine cw_unitD 3 (ι := (List I87) × Value) (fun ⟨x73, v74⟩ => []) (fun ⟨x73, v74⟩ => fun w75 => Hp w [] M [ownR [] I87E 87 v74 x73, rowR 80 b11 [Value.int IntKind.i64 (m.traits), v_m_1, v_m_2, Value.int IntKind.i64 (m.need), v74], rowR 80 b7 [Value.int IntKind.i64 (0), Value.slice none 0 0, Value.slice none 0 0, Value.int IntKind.i64 (0), Value.slice none 0 0]] w75 ∧ Adv (mm [ownR [] I87E 87 v21 x20, rowR 80 b11 [Value.int IntKind.i64 (m.traits), v_m_1, v_m_2, Value.int IntKind.i64 (m.need), v21], rowR 80 b7 [Value.int IntKind.i64 (0), Value.slice none 0 0, Value.slice none 0 0, Value.int IntKind.i64 (0), Value.slice none 0 0]] M) (mm [ownR [] I87E 87 v74 x73, rowR 80 b11 [Value.int IntKind.i64 (m.traits), v_m_1, v_m_2, Value.int IntKind.i64 (m.need), v74], rowR 80 b7 [Value.int IntKind.i64 (0), Value.slice none 0 0, Value.slice none 0 0, Value.int IntKind.i64 (0), Value.slice none 0 0]] M) w22 w75 ∧ x73 = j71) ?_ ?_
    · skip
      refine cw_block ?_
      refine cw_sub (L := [(30, _), (1, _), (2, _), (4, _), (28, _), (29, _)]) (Sub.cons rfl (Sub.cons rfl (Sub.cons rfl (Sub.cons rfl (Sub.cons rfl (Sub.cons rfl (Sub.nil _))))))) ?_
      refine cw_loopM 1 (ι := Int × (List I87) × Value) _ (fun ⟨x78, x80, v81⟩ => [(30, Value.int IntKind.i64 (x78))]) (fun ⟨x78, x80, v81⟩ => (x78, x80)) (fun ⟨x78, x80, v81⟩ => fun w82 => Hp w [] M [ownR [] I87E 87 v81 x80, rowR 80 b11 [Value.int IntKind.i64 (m.traits), v_m_1, v_m_2, Value.int IntKind.i64 (m.need), v81], rowR 80 b7 [Value.int IntKind.i64 (0), Value.slice none 0 0, Value.slice none 0 0, Value.int IntKind.i64 (0), Value.slice none 0 0]] w82 ∧ Adv (mm [ownR [] I87E 87 v21 x20, rowR 80 b11 [Value.int IntKind.i64 (m.traits), v_m_1, v_m_2, Value.int IntKind.i64 (m.need), v21], rowR 80 b7 [Value.int IntKind.i64 (0), Value.slice none 0 0, Value.slice none 0 0, Value.int IntKind.i64 (0), Value.slice none 0 0]] M) (mm [ownR [] I87E 87 v81 x80, rowR 80 b11 [Value.int IntKind.i64 (m.traits), v_m_1, v_m_2, Value.int IntKind.i64 (m.need), v81], rowR 80 b7 [Value.int IntKind.i64 (0), Value.slice none 0 0, Value.slice none 0 0, Value.int IntKind.i64 (0), Value.slice none 0 0]] M) w22 w82 ∧ InK IntKind.i64 x78) (0, x20, v21) h72 ⟨hI23, (Adv.refl _ _), (by decide)⟩ (Sub.cons rfl (Sub.cons rfl (Sub.cons rfl (Sub.cons rfl (Sub.cons rfl (Sub.cons rfl (Sub.nil _))))))) ?_
      rintro ⟨x78, x80, v81⟩ w82 ⟨hI83, hA84, r79⟩ y85 h86 hR87
      refine cw_seq ?_
      refine cw_regF ?_
      refine s_lss rfl rfl rfl ?_
      refine Reg.nil ?_
      refine cw_seq ?_
      refine cw_cond rfl (fun hc88 => ?_) (fun hc88 => ?_)
      · replace h86 := cdT hc88 h86
        refine cw_skip ?_
        refine cw_seq ?_
        refine cw_block ?_
        refine cw_seq ?_
        refine cw_regF ?_
        obtain ⟨y89, hy89, h86⟩ := bnd h86
        refine p_ia rfl rfl (f_m_2.adv hI83.adv) hy89 Try.underlying23 Try.sizeOf59 rfl ?_
        intro b90 o91 cs92 hR93 hC94
        obtain ⟨v96, rfl, r95, hf97⟩ := TreeE_R.1 hR93
        refine s_lda rfl hC94.cells Try.isAgg59 rfl Try.sizeOf59 rfl ?_
        refine y_al hI83 Try.zeroValue59 rfl rfl ?_
        intro b98 w99 hI100 x101
        refine y_st 0 hI100 rfl rfl rfl rfl Try.sizeOf59 rfl rfl (one1 rfl (one1 (RdS.oneC hf97) one0)) ?_
        intro w102 hI103 x104
        have hC106 := hI103.freezeRow 0 rfl
        have hI105 := hI103.erase 0
        refine Reg.nil ?_
        refine cw_regF ?_
        refine s_fa rfl Try.underlying80 rfl Try.sizeOf78 rfl ?_
        refine s_ld rfl ((hI105.row 1 rfl).rd.cells.at 4 rfl) Try.isAgg78 rfl ?_
        refine s_lda rfl hC106.cells Try.isAgg59 rfl Try.sizeOf59 rfl ?_
        refine s_mi (du := .bool) rfl (by kernel_rfl) rfl ?_
        refine y_bs (E := I87E) (xs := [(I87.c106 (Tree.mk y89.weight y89.nodes))]) sl78 hI105 rfl rfl (Cls.cons rfl Cls.nil) (Chs.cons (I87E_c106 ((TreeE_R (x := (Tree.mk y89.weight y89.nodes))).2 ⟨_, rfl, r95, (hf97.adv (x101.trans (x104.trans (Hp.eraseA (σ := [rowR 59 b98 [Value.int IntKind.i64 (y89.weight), v96], ownR [] I87E 87 v81 x80, rowR 80 b11 [Value.int IntKind.i64 (m.traits), v_m_1, v_m_2, Value.int IntKind.i64 (m.need), v81], rowR 80 b7 [Value.int IntKind.i64 (0), Value.slice none 0 0, Value.slice none 0 0, Value.int IntKind.i64 (0), Value.slice none 0 0]]) 0))))⟩)) Chs.nil) rfl rfl ?_
        intro v107 w108 hI109 x110
        have hf111 := hI109.freeze 0 rfl
        have hI112 := hI109.erase 0
        obtain ⟨l113, hl113, h86⟩ := bnd h86
        obtain ⟨hbl113, el113⟩ := appo_out hl113
        refine y_app 0 sl78 hI112 rfl rfl rfl hf111 hbl113 rfl ?_
        rw [← el113]
        intro v114 w115 hI116 x117
        refine s_fa rfl Try.underlying80 rfl Try.sizeOf78 rfl ?_
        refine y_st 1 hI116 rfl rfl rfl (Own.cells1 (hI116.ownAt 0 rfl)) Try.sizeOf78 rfl rfl (one1 (Own.oneC (hI116.ownAt 0 rfl)) one0) ?_
        intro w118 hI119 x120
        refine Reg.nil ?_
        refine cw_regF ?_
        obtain ⟨n121, hn121, h86⟩ := bnd h86
        replace hn121 := chk_out hn121
        refine p_add rfl rfl rfl hn121 ?_
        refine s_mv rfl rfl ?_
        refine Reg.nil ?_
        obtain rfl := Option.some.inj h86
        refine ⟨rfl, (n121, l113, v114), ⟨⟨hI119, (hA84.trans (x101.trans (x104.trans ((Hp.eraseA (σ := [rowR 59 b98 [Value.int IntKind.i64 (y89.weight), v96], ownR [] I87E 87 v81 x80, rowR 80 b11 [Value.int IntKind.i64 (m.traits), v_m_1, v_m_2, Value.int IntKind.i64 (m.need), v81], rowR 80 b7 [Value.int IntKind.i64 (0), Value.slice none 0 0, Value.slice none 0 0, Value.int IntKind.i64 (0), Value.slice none 0 0]]) 0).trans (x110.trans ((Hp.eraseA (σ := [ownR [] I87E 87 v107 ([(I87.c106 (Tree.mk y89.weight y89.nodes))] : List I87), ownR [] I87E 87 v81 x80, rowR 80 b11 [Value.int IntKind.i64 (m.traits), v_m_1, v_m_2, Value.int IntKind.i64 (m.need), v81], rowR 80 b7 [Value.int IntKind.i64 (0), Value.slice none 0 0, Value.slice none 0 0, Value.int IntKind.i64 (0), Value.slice none 0 0]]) 0).trans (x117.trans x120))))))), hn121.2⟩, rfl⟩, Sub.cons rfl (Sub.cons rfl (Sub.cons rfl (Sub.cons rfl (Sub.cons rfl (Sub.cons rfl (Sub.nil _))))))⟩
      · replace h86 := cdF hc88 h86
        refine cw_exit ?_
        refine exB_same ?_
        obtain rfl := Option.some.inj h86
        obtain rfl := hR87 _ rfl
        refine ⟨rfl, (x80, v81), ⟨hI83, hA84, rfl⟩, Sub.cons rfl (Sub.cons rfl (Sub.cons rfl (Sub.nil _)))⟩
    · skip
      rintro ⟨x73, v74⟩ w75 ⟨hI76, hA77, rfl⟩
      refine cw_seq ?_
      refine cw_regF ?_
      refine s_mf rfl rfl ?_
      refine s_as rfl rfl ?_
      refine Reg.nil ?_
      refine cw_seq ?_
      obtain ⟨j122, h123, h⟩ := bnd h
      refine cw_sub (L := [(1, _), (9, _), (2, _), (4, _)]) (Sub.cons rfl (Sub.cons rfl (Sub.cons rfl (Sub.cons rfl (Sub.nil _))))) ?_
      refine cw_seqD 2 (ι := Bool) (fun x124 => [(72, Value.bool x124)]) (fun x124 => fun w125 => Hp w [] M [ownR [] I87E 87 v74 x73, rowR 80 b11 [Value.int IntKind.i64 (m.traits), v_m_1, v_m_2, Value.int IntKind.i64 (m.need), v74], rowR 80 b7 [Value.int IntKind.i64 (0), Value.slice none 0 0, Value.slice none 0 0, Value.int IntKind.i64 (0), Value.slice none 0 0]] w125 ∧ Adv (mm [ownR [] I87E 87 v74 x73, rowR 80 b11 [Value.int IntKind.i64 (m.traits), v_m_1, v_m_2, Value.int IntKind.i64 (m.need), v74], rowR 80 b7 [Value.int IntKind.i64 (0), Value.slice none 0 0, Value.slice none 0 0, Value.int IntKind.i64 (0), Value.slice none 0 0]] M) (mm [ownR [] I87E 87 v74 x73, rowR 80 b11 [Value.int IntKind.i64 (m.traits), v_m_1, v_m_2, Value.int IntKind.i64 (m.need), v74], rowR 80 b7 [Value.int IntKind.i64 (0), Value.slice none 0 0, Value.slice none 0 0, Value.int IntKind.i64 (0), Value.slice none 0 0]] M) w75 w125 ∧ x124 = j122) ?_ ?_
      · skip
        refine cw_regF ?_
        refine s_fa rfl Try.underlying25 rfl Try.sizeOf3 rfl ?_
        refine s_ld rfl ((hC6.adv (x10.trans (x14.trans (x17.trans (hA24.trans hA77))))).cells.at 0 rfl) Try.isAgg3 rfl ?_
        refine y_bs (E := (intE .i64)) (xs := [m.traits]) sl26 hI76 rfl rfl (Cls.cons rfl Cls.nil) (Chs.cons ⟨rfl, f_m_0⟩ Chs.nil) rfl rfl ?_
        intro v128 w129 hI130 x131
        obtain ⟨z132, hz133, h123⟩ := bnd h123
        refine s_call rfl Try.call43 rfl ?_
        refine (C_score_within (hI130.sel [1, 2, 3] rfl).mlt (by decide) (by decide) (hI130.lendRd [1, 2, 3] 0 rfl rfl) hz133).mono ?_
        rintro _ w134 ⟨rfl, e135⟩
        refine ⟨_, rfl, ?_⟩
        have hI136 := hI130.ext e135
        refine s_not rfl rfl ?_
        refine s_mv rfl rfl ?_
        refine Reg.gsplit (t := 48) rfl (fun hg137 => ?_) (fun hg137 => ?_)
        · replace h123 := cdT hg137 h123
          refine Reg.pass rfl rfl rfl rfl ?_
          refine Reg.pass rfl rfl rfl rfl ?_
          refine Reg.pass rfl rfl rfl rfl ?_
          refine Reg.pass rfl rfl rfl rfl ?_
          refine Reg.pass rfl rfl rfl rfl ?_
          refine s_pkT rfl rfl rfl ?_
          refine s_mv rfl rfl ?_
          refine Reg.pass rfl rfl rfl rfl ?_
          refine Reg.pass rfl rfl rfl rfl ?_
          refine Reg.pass rfl rfl rfl rfl ?_
          refine Reg.pass rfl rfl rfl rfl ?_
          refine s_pkT rfl rfl rfl ?_
          refine s_mv rfl rfl ?_
          refine Reg.pass rfl rfl rfl rfl ?_
          refine Reg.pass rfl rfl rfl rfl ?_
          refine Reg.pass rfl rfl rfl rfl ?_
          refine Reg.pass rfl rfl rfl rfl ?_
          refine s_pkT rfl rfl rfl ?_
          refine s_mv rfl rfl ?_
          refine Reg.pass rfl rfl rfl rfl ?_
          refine Reg.pass rfl rfl rfl rfl ?_
          refine Reg.pass rfl rfl rfl rfl ?_
          refine Reg.pass rfl rfl rfl rfl ?_
          refine s_pkT rfl rfl rfl ?_
          refine Reg.nil ?_
          obtain rfl := Option.some.inj h123
          refine ⟨rfl, true, ⟨(hI136.sel [1, 2, 3] rfl), ((x131.trans (Adv.of_ext e135)).trans (Hp.selA (σ := [ownR [] (intE .i64) 3 v128 ([m.traits] : List Int), ownR [] I87E 87 v74 x73, rowR 80 b11 [Value.int IntKind.i64 (m.traits), v_m_1, v_m_2, Value.int IntKind.i64 (m.need), v74], rowR 80 b7 [Value.int IntKind.i64 (0), Value.slice none 0 0, Value.slice none 0 0, Value.int IntKind.i64 (0), Value.slice none 0 0]]) [1, 2, 3])), rfl⟩, Sub.cons rfl (Sub.cons rfl (Sub.cons rfl (Sub.nil _)))⟩
        · replace h123 := cdF hg137 h123
          refine Reg.take rfl rfl ?_
          refine s_fa rfl Try.underlying25 rfl Try.sizeOf3 rfl ?_
          refine Reg.take rfl rfl ?_
          refine s_ld rfl ((hC6.adv (x10.trans (x14.trans (x17.trans (hA24.trans (hA77.trans (x131.trans (Adv.of_ext e135)))))))).cells.at 3 rfl) Try.isAgg3 rfl ?_
          refine Reg.take rfl rfl ?_
          refine y_bs (E := (intE .i64)) (xs := [m.need]) sl26 hI136 rfl rfl (Cls.cons rfl Cls.nil) (Chs.cons ⟨rfl, f_m_3⟩ Chs.nil) rfl rfl ?_
          intro v138 w139 hI140 x141
          refine Reg.take rfl rfl ?_
          obtain ⟨z142, hz143, h123⟩ := bnd h123
          refine s_call rfl Try.call53 rfl ?_
          refine (C_score_counts (hI140.sel [1, 2, 3, 4] rfl).mlt (hI140.lendRd [1, 2, 3, 4] 0 rfl rfl) hz143).mono ?_
          rintro _ w144 ⟨rfl, e145⟩
          refine ⟨_, rfl, ?_⟩
          have hI146 := hI140.ext e145
          refine Reg.take rfl rfl ?_
          refine s_not rfl rfl ?_
          refine s_pkF rfl rfl rfl ?_
          refine s_mv rfl rfl ?_
          refine Reg.gsplit (t := 55) rfl (fun hg147 => ?_) (fun hg147 => ?_)
          · replace h123 := cdT hg147 h123
            refine Reg.pass rfl rfl rfl rfl ?_
            refine Reg.pass rfl rfl rfl rfl ?_
            refine Reg.pass rfl rfl rfl rfl ?_
            refine Reg.pass rfl rfl rfl rfl ?_
            refine s_pkT rfl rfl rfl ?_
            refine s_mv rfl rfl ?_
            refine Reg.pass rfl rfl rfl rfl ?_
            refine Reg.pass rfl rfl rfl rfl ?_
            refine Reg.pass rfl rfl rfl rfl ?_
            refine Reg.pass rfl rfl rfl rfl ?_
            refine s_pkT rfl rfl rfl ?_
            refine s_mv rfl rfl ?_
            refine Reg.pass rfl rfl rfl rfl ?_
            refine Reg.pass rfl rfl rfl rfl ?_
            refine Reg.pass rfl rfl rfl rfl ?_
            refine Reg.pass rfl rfl rfl rfl ?_
            refine s_pkT rfl rfl rfl ?_
            refine Reg.nil ?_
            obtain rfl := Option.some.inj h123
            refine ⟨rfl, true, ⟨(hI146.sel [2, 3, 4] rfl), ((x131.trans ((Adv.of_ext e135).trans (x141.trans (Adv.of_ext e145)))).trans (Hp.selA (σ := [ownR [] (intE .i64) 3 v138 ([m.need] : List Int), ownR [] (intE .i64) 3 v128 ([m.traits] : List Int), ownR [] I87E 87 v74 x73, rowR 80 b11 [Value.int IntKind.i64 (m.traits), v_m_1, v_m_2, Value.int IntKind.i64 (m.need), v74], rowR 80 b7 [Value.int IntKind.i64 (0), Value.slice none 0 0, Value.slice none 0 0, Value.int IntKind.i64 (0), Value.slice none 0 0]]) [2, 3, 4])), rfl⟩, Sub.cons rfl (Sub.cons rfl (Sub.cons rfl (Sub.nil _)))⟩
          · replace h123 := cdF hg147 h123
            refine Reg.take rfl rfl ?_
            refine s_fa rfl Try.underlying25 rfl Try.sizeOf22 rfl ?_
            refine Reg.take rfl rfl ?_
            refine s_ld rfl ((hC6.adv (x10.trans (x14.trans (x17.trans (hA24.trans (hA77.trans (x131.trans ((Adv.of_ext e135).trans (x141.trans (Adv.of_ext e145)))))))))).cells.at 1 rfl) Try.isAgg22 rfl ?_
            refine Reg.take rfl rfl ?_
            refine s_len rfl (f_m_1.adv hI146.adv) Try.underlying22 rfl ?_
            refine Reg.take rfl rfl ?_
            refine s_gtr rfl rfl rfl ?_
            refine s_pkF rfl rfl rfl ?_
            refine s_mv rfl rfl ?_
            refine Reg.gsplit (t := 61) rfl (fun hg148 => ?_) (fun hg148 => ?_)
            · replace h123 := cdT hg148 h123
              refine Reg.pass rfl rfl rfl rfl ?_
              refine Reg.pass rfl rfl rfl rfl ?_
              refine Reg.pass rfl rfl rfl rfl ?_
              refine Reg.pass rfl rfl rfl rfl ?_
              refine s_pkT rfl rfl rfl ?_
              refine s_mv rfl rfl ?_
              refine Reg.pass rfl rfl rfl rfl ?_
              refine Reg.pass rfl rfl rfl rfl ?_
              refine Reg.pass rfl rfl rfl rfl ?_
              refine Reg.pass rfl rfl rfl rfl ?_
              refine s_pkT rfl rfl rfl ?_
              refine Reg.nil ?_
              obtain rfl := Option.some.inj h123
              refine ⟨rfl, true, ⟨(hI146.sel [2, 3, 4] rfl), ((x131.trans ((Adv.of_ext e135).trans (x141.trans (Adv.of_ext e145)))).trans (Hp.selA (σ := [ownR [] (intE .i64) 3 v138 ([m.need] : List Int), ownR [] (intE .i64) 3 v128 ([m.traits] : List Int), ownR [] I87E 87 v74 x73, rowR 80 b11 [Value.int IntKind.i64 (m.traits), v_m_1, v_m_2, Value.int IntKind.i64 (m.need), v74], rowR 80 b7 [Value.int IntKind.i64 (0), Value.slice none 0 0, Value.slice none 0 0, Value.int IntKind.i64 (0), Value.slice none 0 0]]) [2, 3, 4])), rfl⟩, Sub.cons rfl (Sub.cons rfl (Sub.cons rfl (Sub.nil _)))⟩
            · replace h123 := cdF hg148 h123
              refine Reg.take rfl rfl ?_
              refine s_fa rfl Try.underlying25 rfl Try.sizeOf23 rfl ?_
              refine Reg.take rfl rfl ?_
              refine s_ld rfl ((hC6.adv (x10.trans (x14.trans (x17.trans (hA24.trans (hA77.trans (x131.trans ((Adv.of_ext e135).trans (x141.trans (Adv.of_ext e145)))))))))).cells.at 2 rfl) Try.isAgg23 rfl ?_
              refine Reg.take rfl rfl ?_
              refine s_len rfl (f_m_2.adv hI146.adv) Try.underlying23 rfl ?_
              refine Reg.take rfl rfl ?_
              refine s_gtr rfl rfl rfl ?_
              refine s_pkF rfl rfl rfl ?_
              refine s_mv rfl rfl ?_
              refine Reg.gsplit (t := 67) rfl (fun hg149 => ?_) (fun hg149 => ?_)
              · replace h123 := cdT hg149 h123
                refine Reg.pass rfl rfl rfl rfl ?_
                refine Reg.pass rfl rfl rfl rfl ?_
                refine Reg.pass rfl rfl rfl rfl ?_
                refine Reg.pass rfl rfl rfl rfl ?_
                refine s_pkT rfl rfl rfl ?_
                refine Reg.nil ?_
                obtain rfl := Option.some.inj h123
                refine ⟨rfl, true, ⟨(hI146.sel [2, 3, 4] rfl), ((x131.trans ((Adv.of_ext e135).trans (x141.trans (Adv.of_ext e145)))).trans (Hp.selA (σ := [ownR [] (intE .i64) 3 v138 ([m.need] : List Int), ownR [] (intE .i64) 3 v128 ([m.traits] : List Int), ownR [] I87E 87 v74 x73, rowR 80 b11 [Value.int IntKind.i64 (m.traits), v_m_1, v_m_2, Value.int IntKind.i64 (m.need), v74], rowR 80 b7 [Value.int IntKind.i64 (0), Value.slice none 0 0, Value.slice none 0 0, Value.int IntKind.i64 (0), Value.slice none 0 0]]) [2, 3, 4])), rfl⟩, Sub.cons rfl (Sub.cons rfl (Sub.cons rfl (Sub.nil _)))⟩
              · replace h123 := cdF hg149 h123
                refine Reg.take rfl rfl ?_
                refine s_fa rfl Try.underlying80 rfl Try.sizeOf78 rfl ?_
                refine Reg.take rfl rfl ?_
                refine s_ld rfl ((hI146.row 3 rfl).rd.cells.at 4 rfl) Try.isAgg78 rfl ?_
                refine Reg.take rfl rfl ?_
                refine s_mv rfl rfl ?_
                refine Reg.take rfl rfl ?_
                obtain ⟨z150, hz151, h123⟩ := bnd h123
                refine s_call rfl Try.call54 rfl ?_
                refine (C_slices_ContainsFunc_54 (hI146.sel [0, 1, 3, 4] rfl).mlt (hI146.lendRd [0, 1, 3, 4] 2 rfl rfl) (fun a0 a1 r w9 e9 f0 hr => CallsV.ofL Try.call52 rfl (C_score_open_in1 ((hI146.sel [0, 1, 3, 4] rfl).mlt.ext e9) f0 f_m_0 ((f_m_1.adv hI146.adv).adv ((Hp.selA (σ := [ownR [] (intE .i64) 3 v138 ([m.need] : List Int), ownR [] (intE .i64) 3 v128 ([m.traits] : List Int), ownR [] I87E 87 v74 x73, rowR 80 b11 [Value.int IntKind.i64 (m.traits), v_m_1, v_m_2, Value.int IntKind.i64 (m.need), v74], rowR 80 b7 [Value.int IntKind.i64 (0), Value.slice none 0 0, Value.slice none 0 0, Value.int IntKind.i64 (0), Value.slice none 0 0]]) (M := M) [0, 1, 3, 4]).trans (Adv.of_ext e9))) ((f_m_2.adv hI146.adv).adv ((Hp.selA (σ := [ownR [] (intE .i64) 3 v138 ([m.need] : List Int), ownR [] (intE .i64) 3 v128 ([m.traits] : List Int), ownR [] I87E 87 v74 x73, rowR 80 b11 [Value.int IntKind.i64 (m.traits), v_m_1, v_m_2, Value.int IntKind.i64 (m.need), v74], rowR 80 b7 [Value.int IntKind.i64 (0), Value.slice none 0 0, Value.slice none 0 0, Value.int IntKind.i64 (0), Value.slice none 0 0]]) (M := M) [0, 1, 3, 4]).trans (Adv.of_ext e9))) f_m_3 ((hC6.adv (x10.trans (x14.trans (x17.trans (hA24.trans (hA77.trans (x131.trans ((Adv.of_ext e135).trans (x141.trans (Adv.of_ext e145)))))))))).adv ((Hp.selA (σ := [ownR [] (intE .i64) 3 v138 ([m.need] : List Int), ownR [] (intE .i64) 3 v128 ([m.traits] : List Int), ownR [] I87E 87 v74 x73, rowR 80 b11 [Value.int IntKind.i64 (m.traits), v_m_1, v_m_2, Value.int IntKind.i64 (m.need), v74], rowR 80 b7 [Value.int IntKind.i64 (0), Value.slice none 0 0, Value.slice none 0 0, Value.int IntKind.i64 (0), Value.slice none 0 0]]) (M := M) [0, 1, 3, 4]).trans (Adv.of_ext e9))) hr)) hz151).mono ?_
                rintro _ w152 ⟨rfl, e153⟩
                refine ⟨_, rfl, ?_⟩
                have hI154 := hI146.ext e153
                refine s_pkF rfl rfl rfl ?_
                refine Reg.nil ?_
                obtain rfl := Option.some.inj h123
                refine ⟨rfl, z150, ⟨(hI154.sel [2, 3, 4] rfl), ((x131.trans ((Adv.of_ext e135).trans (x141.trans ((Adv.of_ext e145).trans (Adv.of_ext e153))))).trans (Hp.selA (σ := [ownR [] (intE .i64) 3 v138 ([m.need] : List Int), ownR [] (intE .i64) 3 v128 ([m.traits] : List Int), ownR [] I87E 87 v74 x73, rowR 80 b11 [Value.int IntKind.i64 (m.traits), v_m_1, v_m_2, Value.int IntKind.i64 (m.need), v74], rowR 80 b7 [Value.int IntKind.i64 (0), Value.slice none 0 0, Value.slice none 0 0, Value.int IntKind.i64 (0), Value.slice none 0 0]]) [2, 3, 4])), rfl⟩, Sub.cons rfl (Sub.cons rfl (Sub.cons rfl (Sub.nil _)))⟩
      · skip
        rintro x124 w125 ⟨hI126, hA127, rfl⟩
        refine cw_cond rfl (fun hc155 => ?_) (fun hc155 => ?_)
        · replace h := cdT hc155 h
          refine cw_seq ?_
          refine cw_regF ?_
          refine s_bd [(0, 4), (4, 1)] Try.zeroValue80 rfl Try.underlying80 (fun _ => by simp [Try.sizeOf25, Try.sizeOf78]) rfl (Cls.nil) rfl rfl ?_
          refine y_st 2 hI126 rfl rfl rfl rfl Try.sizeOf80 rfl rfl (one1 rfl (one1 rfl (one1 rfl (one1 rfl (one1 rfl one0))))) ?_
          intro w156 hI157 x158
          refine s_as rfl rfl ?_
          refine Reg.nil ?_
          refine cw_ret ?_
          obtain ⟨rfl, rfl⟩ := inj2 h
          refine fin_any Try.results37 (AllRs.cons (RsOk.agg rfl (hI157.row 2 rfl).rd.cells Try.isAgg80 rfl Try.sizeOf80) (AllRs.cons (RsOk.tmp rfl) (AllRs.nil))) rfl ?_
          exact ⟨_, _, _, rfl, (by decide), (RdS.nil _ _ _), (RdS.nil _ _ _), (by decide), (RdS.nil _ _ _), (by decide), hI157.kp⟩
        · replace h := cdF hc155 h
          refine cw_skip ?_
          refine cw_seq ?_
          refine cw_regF ?_
          refine s_lda rfl (hI126.row 1 rfl).rd.cells Try.isAgg80 rfl Try.sizeOf80 rfl ?_
          refine y_st 2 hI126 rfl rfl rfl rfl Try.sizeOf80 rfl rfl (one1 rfl (one1 (RdS.oneC f_m_1) (one1 (RdS.oneC f_m_2) (one1 rfl (one1 (Own.oneC (hI126.ownAt 0 rfl)) one0))))) ?_
          intro w159 hI160 x161
          refine s_as rfl rfl ?_
          refine Reg.nil ?_
          refine cw_ret ?_
          obtain ⟨rfl, rfl⟩ := inj2 h
          have hf162 := hI160.freeze 0 rfl
          have hI163 := hI160.erase 0
          refine fin_any Try.results37 (AllRs.cons (RsOk.agg rfl (hI163.row 1 rfl).rd.cells Try.isAgg80 rfl Try.sizeOf80) (AllRs.cons (RsOk.tmp rfl) (AllRs.nil))) rfl ?_
          exact ⟨_, _, _, rfl, f_m_0, ((f_m_1.adv hI163.adv).adv (Hp.baseA (σ := [rowR 80 b11 [Value.int IntKind.i64 (m.traits), v_m_1, v_m_2, Value.int IntKind.i64 (m.need), v74], rowR 80 b7 [Value.int IntKind.i64 (m.traits), v_m_1, v_m_2, Value.int IntKind.i64 (m.need), v74]]))), ((f_m_2.adv hI163.adv).adv (Hp.baseA (σ := [rowR 80 b11 [Value.int IntKind.i64 (m.traits), v_m_1, v_m_2, Value.int IntKind.i64 (m.need), v74], rowR 80 b7 [Value.int IntKind.i64 (m.traits), v_m_1, v_m_2, Value.int IntKind.i64 (m.need), v74]]))), f_m_3, (hf162.adv (Hp.baseA (σ := [rowR 80 b11 [Value.int IntKind.i64 (m.traits), v_m_1, v_m_2, Value.int IntKind.i64 (m.need), v74], rowR 80 b7 [Value.int IntKind.i64 (m.traits), v_m_1, v_m_2, Value.int IntKind.i64 (m.need), v74]]))), (by decide), hI163.kp⟩

noncomputable def P.score_Check (m : Model) : Option Int :=
  Option.bind (P.score_open (Model.mk m.traits m.cards m.trees m.need)) fun (z7, z8) => some z8

theorem C_score_Check {M : List Nat} {w : World} (hM : MLt M w) {m : Model} {v_m_1 : Value} {v_m_2 : Value} (f_m_0 : InK IntKind.i64 m.traits) (f_m_1 : RdS CardE M w v_m_1 m.cards) (f_m_2 : RdS TreeE M w v_m_2 m.trees) (f_m_3 : InK IntKind.i64 m.need) {r0 : Int} (h : P.score_Check m = some r0) :
    Calls Try.prog 18 (List.toArray [Value.agg (List.toArray [Value.int IntKind.i64 m.traits, v_m_1, v_m_2, Value.int IntKind.i64 m.need])]) w fun e w' => e = .returned (Value.int IntKind.i64 r0) ∧ InK IntKind.i64 r0 ∧ Ext w w' := by
  have hI := Hp.start (Mu := []) hM
  refine calls_cw Try.func18 rfl Try.ntmps18 rfl ?_
  refine cw_seq ?_
  refine cw_regF ?_
  refine y_box hI rfl rfl rfl ?_
  intro b1 w2 hI3 x4
  have hC6 := hI3.freezeRow 0 rfl
  have hI5 := hI3.erase 0
  refine s_as rfl rfl ?_
  refine Reg.nil ?_
  refine cw_seq ?_
  refine cw_regF ?_
  refine s_lda rfl hC6.cells Try.isAgg25 rfl Try.sizeOf25 rfl ?_
  obtain ⟨⟨z7, z8⟩, hz9, h⟩ := bnd h
  refine s_call rfl Try.call37 rfl ?_
  refine (C_score_open hI5.mlt f_m_0 (f_m_1.adv hI5.adv) (f_m_2.adv hI5.adv) f_m_3 hz9).mono ?_
  rintro _ w10 ⟨v13, v15, v18, rfl, r12, hf14, hf16, r17, hf19, r20, e11⟩
  refine ⟨_, rfl, ?_⟩
  have hI21 := hI5.ext e11
  refine s_mv rfl rfl ?_
  refine s_xt rfl rfl rfl ?_
  refine s_xt rfl rfl rfl ?_
  refine y_al hI21 Try.zeroValue80 rfl rfl ?_
  intro b22 w23 hI24 x25
  refine y_st 0 hI24 rfl rfl rfl rfl Try.sizeOf80 rfl rfl (one1 rfl (one1 (RdS.oneC hf14) (one1 (RdS.oneC hf16) (one1 rfl (one1 (RdS.oneC hf19) one0))))) ?_
  intro w26 hI27 x28
  have hC30 := hI27.freezeRow 0 rfl
  have hI29 := hI27.erase 0
  refine s_as rfl rfl ?_
  refine Reg.nil ?_
  refine cw_seq ?_
  refine cw_regF ?_
  refine s_mv rfl rfl ?_
  refine s_as rfl rfl ?_
  refine Reg.nil ?_
  refine cw_ret ?_
  obtain rfl := Option.some.inj h
  refine fin1 Try.results18 rfl ?_
  exact ⟨rfl, r20, hI29.kp⟩

noncomputable def P.score_asked (m : Model) (x : (List Int)) : Option (Works × Int) :=
  Option.bind (P.score_open (Model.mk m.traits m.cards m.trees m.need)) fun (z11, z12) => Option.bind (cond (decide (z12 = 0)) (cond (!decide ((x.length : Int) = m.traits)) (some true) (Option.bind (P.score_within (-1) 1000000 x) fun z37 => some (!z37))) (some false)) fun x42 => cond x42 (some ((Works.mk (Model.mk z11.model.traits z11.model.cards z11.model.trees z11.model.need) z11.parts), 61)) (some ((Works.mk (Model.mk z11.model.traits z11.model.cards z11.model.trees z11.model.need) z11.parts), z12))

theorem C_score_asked {M : List Nat} {w : World} (hM : MLt M w) {m : Model} {v_m_1 : Value} {v_m_2 : Value} (f_m_0 : InK IntKind.i64 m.traits) (f_m_1 : RdS CardE M w v_m_1 m.cards) (f_m_2 : RdS TreeE M w v_m_2 m.trees) (f_m_3 : InK IntKind.i64 m.need) {x : (List Int)} {v_x_0 : Value} (f_x_0 : RdS (intE .i64) M w v_x_0 x) {r0 : Works} {r1 : Int} (h : P.score_asked m x = some (r0, r1)) :
    Calls Try.prog 31 (List.toArray [Value.agg (List.toArray [Value.int IntKind.i64 m.traits, v_m_1, v_m_2, Value.int IntKind.i64 m.need]), v_x_0]) w fun e w' => ∃ v0_1 : Value, ∃ v0_2 : Value, ∃ v0_4 : Value, e = .returned (Value.tuple (List.toArray [Value.agg (List.toArray [Value.int IntKind.i64 r0.model.traits, v0_1, v0_2, Value.int IntKind.i64 r0.model.need, v0_4]), Value.int IntKind.i64 r1])) ∧ InK IntKind.i64 r0.model.traits ∧ RdS CardE M w' v0_1 r0.model.cards ∧ RdS TreeE M w' v0_2 r0.model.trees ∧ InK IntKind.i64 r0.model.need ∧ RdS I87E M w' v0_4 r0.parts ∧ InK IntKind.i64 r1 ∧ Ext w w' := by
  have hI := Hp.start (Mu := []) hM
  refine calls_cw Try.func31 rfl Try.ntmps31 rfl ?_
  refine cw_seq ?_
  refine cw_regF ?_
  refine y_box hI rfl rfl rfl ?_
  intro b1 w2 hI3 x4
  have hC6 := hI3.freezeRow 0 rfl
  have hI5 := hI3.erase 0
  refine y_al hI5 Try.zeroValue80 rfl rfl ?_
  intro b7 w8 hI9 x10
  refine s_as rfl rfl ?_
  refine Reg.nil ?_
  refine cw_seq ?_
  refine cw_regF ?_
  refine s_lda rfl (hC6.adv x10).cells Try.isAgg25 rfl Try.sizeOf25 rfl ?_
  obtain ⟨⟨z11, z12⟩, hz13, h⟩ := bnd h
  refine s_call rfl Try.call37 rfl ?_
  refine (C_score_open hI9.mlt f_m_0 (f_m_1.adv hI9.adv) (f_m_2.adv hI9.adv) f_m_3 hz13).mono ?_
  rintro _ w14 ⟨v17, v19, v22, rfl, r16, hf18, hf20, r21, hf23, r24, e15⟩
  refine ⟨_, rfl, ?_⟩
  have hI25 := hI9.ext e15
  refine s_mv rfl rfl ?_
  refine s_xt rfl rfl rfl ?_
  refine s_xt rfl rfl rfl ?_
  refine y_al hI25 Try.zeroValue80 rfl rfl ?_
  intro b26 w27 hI28 x29
  refine y_st 0 hI28 rfl rfl rfl rfl Try.sizeOf80 rfl rfl (one1 rfl (one1 (RdS.oneC hf18) (one1 (RdS.oneC hf20) (one1 rfl (one1 (RdS.oneC hf23) one0))))) ?_
  intro w30 hI31 x32
  have hC34 := hI31.freezeRow 0 rfl
  have hI33 := hI31.erase 0
  refine s_as rfl rfl ?_
  refine Reg.nil ?_
  refine cw_seq ?_
  obtain ⟨j35, h36, h⟩ := bnd h
  refine cw_sub (L := [(1, _), (2, _), (4, _), (6, _), (7, _)]) (Sub.cons rfl (Sub.cons rfl (Sub.cons rfl (Sub.cons rfl (Sub.cons rfl (Sub.nil _)))))) ?_
  refine cw_seqD 2 (ι := Bool) (fun x37 => [(26, Value.bool x37)]) (fun x37 => fun w38 => Hp w [] M [rowR 80 b7 [Value.int IntKind.i64 (0), Value.slice none 0 0, Value.slice none 0 0, Value.int IntKind.i64 (0), Value.slice none 0 0]] w38 ∧ Adv (mm [rowR 80 b7 [Value.int IntKind.i64 (0), Value.slice none 0 0, Value.slice none 0 0, Value.int IntKind.i64 (0), Value.slice none 0 0]] M) (mm [rowR 80 b7 [Value.int IntKind.i64 (0), Value.slice none 0 0, Value.slice none 0 0, Value.int IntKind.i64 (0), Value.slice none 0 0]] M) w30 w38 ∧ x37 = j35) ?_ ?_
  · skip
    refine cw_regF ?_
    refine s_mv rfl rfl ?_
    refine s_eql rfl rfl rfl ?_
    refine s_mv rfl rfl ?_
    refine Reg.gsplit (t := 15) rfl (fun hg41 => ?_) (fun hg41 => ?_)
    · replace h36 := cdT hg41 h36
      refine Reg.take rfl rfl ?_
      refine s_mv rfl rfl ?_
      refine Reg.take rfl rfl ?_
      refine s_len rfl (f_x_0.adv hI33.adv) Try.underlying26 rfl ?_
      refine Reg.take rfl rfl ?_
      refine s_fa rfl Try.underlying25 rfl Try.sizeOf3 rfl ?_
      refine Reg.take rfl rfl ?_
      refine s_ld rfl ((hC6.adv (x10.trans ((Adv.of_ext e15).trans (x29.trans (x32.trans (Hp.eraseA (σ := [rowR 80 b26 [Value.int IntKind.i64 (z11.model.traits), v17, v19, Value.int IntKind.i64 (z11.model.need), v22], rowR 80 b7 [Value.int IntKind.i64 (0), Value.slice none 0 0, Value.slice none 0 0, Value.int IntKind.i64 (0), Value.slice none 0 0]]) 0)))))).cells.at 0 rfl) Try.isAgg3 rfl ?_
      refine Reg.take rfl rfl ?_
      refine s_neq rfl rfl rfl ?_
      refine Reg.take rfl rfl ?_
      refine s_mv rfl rfl ?_
      refine Reg.gsplit (t := 21) rfl (fun hg42 => ?_) (fun hg42 => ?_)
      · replace h36 := cdT hg42 h36
        refine Reg.pass rfl rfl rfl rfl ?_
        refine Reg.pass rfl rfl rfl rfl ?_
        refine Reg.pass rfl rfl rfl rfl ?_
        refine Reg.take rfl rfl ?_
        refine s_pkT rfl rfl rfl ?_
        refine s_pkT rfl rfl rfl ?_
        refine Reg.nil ?_
        obtain rfl := Option.some.inj h36
        refine ⟨rfl, true, ⟨hI33, (Adv.refl _ _), rfl⟩, Sub.cons rfl (Sub.cons rfl (Sub.cons rfl (Sub.cons rfl (Sub.nil _))))⟩
      · replace h36 := cdF hg42 h36
        refine Reg.take rfl rfl ?_
        refine s_mv rfl rfl ?_
        refine Reg.take rfl rfl ?_
        obtain ⟨z43, hz44, h36⟩ := bnd h36
        refine s_call rfl Try.call43 rfl ?_
        refine (C_score_within hI33.mlt (by decide) (by decide) (f_x_0.adv hI33.adv) hz44).mono ?_
        rintro _ w45 ⟨rfl, e46⟩
        refine ⟨_, rfl, ?_⟩
        have hI47 := hI33.ext e46
        refine Reg.take rfl rfl ?_
        refine s_not rfl rfl ?_
        refine Reg.take rfl rfl ?_
        refine s_pkF rfl rfl rfl ?_
        refine s_pkT rfl rfl rfl ?_
        refine Reg.nil ?_
        obtain rfl := Option.some.inj h36
        refine ⟨rfl, !z43, ⟨hI47, (Adv.of_ext e46), rfl⟩, Sub.cons rfl (Sub.cons rfl (Sub.cons rfl (Sub.cons rfl (Sub.nil _))))⟩
    · replace h36 := cdF hg41 h36
      refine Reg.pass rfl rfl rfl rfl ?_
      refine Reg.pass rfl rfl rfl rfl ?_
      refine Reg.pass rfl rfl rfl rfl ?_
      refine Reg.pass rfl rfl rfl rfl ?_
      refine Reg.pass rfl rfl rfl rfl ?_
      refine Reg.pass rfl rfl rfl rfl ?_
      refine Reg.passU rfl rfl rfl ?_
      refine Reg.passU rfl rfl rfl ?_
      refine Reg.passU rfl rfl rfl ?_
      refine Reg.pass rfl rfl rfl rfl ?_
      refine s_pkF rfl rfl rfl ?_
      refine Reg.nil ?_
      obtain rfl := Option.some.inj h36
      refine ⟨rfl, false, ⟨hI33, (Adv.refl _ _), rfl⟩, Sub.cons rfl (Sub.cons rfl (Sub.cons rfl (Sub.cons rfl (Sub.nil _))))⟩
  · skip
    rintro x37 w38 ⟨hI39, hA40, rfl⟩
    refine cw_cond rfl (fun hc48 => ?_) (fun hc48 => ?_)
    · replace h := cdT hc48 h
      refine cw_seq ?_
      refine cw_regF ?_
      refine s_lda rfl (hC34.adv hA40).cells Try.isAgg80 rfl Try.sizeOf80 rfl ?_
      refine y_st 0 hI39 rfl rfl rfl rfl Try.sizeOf80 rfl rfl (one1 rfl (one1 (RdS.oneC hf18) (one1 (RdS.oneC hf20) (one1 rfl (one1 (RdS.oneC hf23) one0))))) ?_
      intro w49 hI50 x51
      refine s_as rfl rfl ?_
      refine Reg.nil ?_
      refine cw_ret ?_
      obtain ⟨rfl, rfl⟩ := inj2 h
      refine fin_any Try.results31 (AllRs.cons (RsOk.agg rfl (hI50.row 0 rfl).rd.cells Try.isAgg80 rfl Try.sizeOf80) (AllRs.cons (RsOk.tmp rfl) (AllRs.nil))) rfl ?_
      exact ⟨_, _, _, rfl, r16, ((hf18.adv (x29.trans (x32.trans ((Hp.eraseA (σ := [rowR 80 b26 [Value.int IntKind.i64 (z11.model.traits), v17, v19, Value.int IntKind.i64 (z11.model.need), v22], rowR 80 b7 [Value.int IntKind.i64 (0), Value.slice none 0 0, Value.slice none 0 0, Value.int IntKind.i64 (0), Value.slice none 0 0]]) 0).trans (hA40.trans x51))))).adv (Hp.baseA (σ := [rowR 80 b7 [Value.int IntKind.i64 (z11.model.traits), v17, v19, Value.int IntKind.i64 (z11.model.need), v22]]))), ((hf20.adv (x29.trans (x32.trans ((Hp.eraseA (σ := [rowR 80 b26 [Value.int IntKind.i64 (z11.model.traits), v17, v19, Value.int IntKind.i64 (z11.model.need), v22], rowR 80 b7 [Value.int IntKind.i64 (0), Value.slice none 0 0, Value.slice none 0 0, Value.int IntKind.i64 (0), Value.slice none 0 0]]) 0).trans (hA40.trans x51))))).adv (Hp.baseA (σ := [rowR 80 b7 [Value.int IntKind.i64 (z11.model.traits), v17, v19, Value.int IntKind.i64 (z11.model.need), v22]]))), r21, ((hf23.adv (x29.trans (x32.trans ((Hp.eraseA (σ := [rowR 80 b26 [Value.int IntKind.i64 (z11.model.traits), v17, v19, Value.int IntKind.i64 (z11.model.need), v22], rowR 80 b7 [Value.int IntKind.i64 (0), Value.slice none 0 0, Value.slice none 0 0, Value.int IntKind.i64 (0), Value.slice none 0 0]]) 0).trans (hA40.trans x51))))).adv (Hp.baseA (σ := [rowR 80 b7 [Value.int IntKind.i64 (z11.model.traits), v17, v19, Value.int IntKind.i64 (z11.model.need), v22]]))), (by decide), hI50.kp⟩
    · replace h := cdF hc48 h
      refine cw_skip ?_
      refine cw_seq ?_
      refine cw_regF ?_
      refine s_lda rfl (hC34.adv hA40).cells Try.isAgg80 rfl Try.sizeOf80 rfl ?_
      refine s_mv rfl rfl ?_
      refine y_st 0 hI39 rfl rfl rfl rfl Try.sizeOf80 rfl rfl (one1 rfl (one1 (RdS.oneC hf18) (one1 (RdS.oneC hf20) (one1 rfl (one1 (RdS.oneC hf23) one0))))) ?_
      intro w52 hI53 x54
      refine s_as rfl rfl ?_
      refine Reg.nil ?_
      refine cw_ret ?_
      obtain ⟨rfl, rfl⟩ := inj2 h
      refine fin_any Try.results31 (AllRs.cons (RsOk.agg rfl (hI53.row 0 rfl).rd.cells Try.isAgg80 rfl Try.sizeOf80) (AllRs.cons (RsOk.tmp rfl) (AllRs.nil))) rfl ?_
      exact ⟨_, _, _, rfl, r16, ((hf18.adv (x29.trans (x32.trans ((Hp.eraseA (σ := [rowR 80 b26 [Value.int IntKind.i64 (z11.model.traits), v17, v19, Value.int IntKind.i64 (z11.model.need), v22], rowR 80 b7 [Value.int IntKind.i64 (0), Value.slice none 0 0, Value.slice none 0 0, Value.int IntKind.i64 (0), Value.slice none 0 0]]) 0).trans (hA40.trans x54))))).adv (Hp.baseA (σ := [rowR 80 b7 [Value.int IntKind.i64 (z11.model.traits), v17, v19, Value.int IntKind.i64 (z11.model.need), v22]]))), ((hf20.adv (x29.trans (x32.trans ((Hp.eraseA (σ := [rowR 80 b26 [Value.int IntKind.i64 (z11.model.traits), v17, v19, Value.int IntKind.i64 (z11.model.need), v22], rowR 80 b7 [Value.int IntKind.i64 (0), Value.slice none 0 0, Value.slice none 0 0, Value.int IntKind.i64 (0), Value.slice none 0 0]]) 0).trans (hA40.trans x54))))).adv (Hp.baseA (σ := [rowR 80 b7 [Value.int IntKind.i64 (z11.model.traits), v17, v19, Value.int IntKind.i64 (z11.model.need), v22]]))), r21, ((hf23.adv (x29.trans (x32.trans ((Hp.eraseA (σ := [rowR 80 b26 [Value.int IntKind.i64 (z11.model.traits), v17, v19, Value.int IntKind.i64 (z11.model.need), v22], rowR 80 b7 [Value.int IntKind.i64 (0), Value.slice none 0 0, Value.slice none 0 0, Value.int IntKind.i64 (0), Value.slice none 0 0]]) 0).trans (hA40.trans x54))))).adv (Hp.baseA (σ := [rowR 80 b7 [Value.int IntKind.i64 (z11.model.traits), v17, v19, Value.int IntKind.i64 (z11.model.need), v22]]))), r24, hI53.kp⟩

noncomputable def P.M87_points (x : I87) (x0 : (List Int)) : Option Int := match x with
  | .c105 y => P.score_card_points y x0
  | .c106 y => P.score_tree_points y x0

theorem C_M87_points {nm : String} (q105 : ∀ u w, (method (Try.prog.types.size + Made.depth) 105 u nm).run Try.prog w = .ok (126, u) w) (q106 : ∀ u w, (method (Try.prog.types.size + Made.depth) 106 u nm).run Try.prog w = .ok (136, u) w) {M : List Nat} {w : World} (hM : MLt M w) {v : Value} {x : I87} (hx : I87E.R M w [v] x) {x0 : (List Int)} {v_x0_0 : Value} (f_x0_0 : RdS (intE .i64) M w v_x0_0 x0) {r : Int} (h : P.M87_points x x0 = some r) :
    CallsI Try.prog v nm [v_x0_0] w fun e w' => e = .returned (Value.int IntKind.i64 r) ∧ InK IntKind.i64 r ∧ Ext w w' := by
  cases x with
  | c105 y =>
    obtain ⟨ds, he, hR⟩ := hx
    cases he
    obtain ⟨v2, rfl, g0, g1, g2⟩ := CardE_R.1 hR
    exact ⟨126, _, ⟨105, _, rfl, q105 _, Try.call126⟩, C_score_card_points hM g0 g1 g2 f_x0_0 h⟩
  | c106 y =>
    obtain ⟨ds, he, hR⟩ := hx
    cases he
    obtain ⟨v1, rfl, g0, g1⟩ := TreeE_R.1 hR
    exact ⟨136, _, ⟨106, _, rfl, q106 _, Try.call136⟩, C_score_tree_points hM g0 g1 f_x0_0 h⟩


noncomputable def P.score_works_score (w_ : Works) (x : (List Int)) : Option Int :=
  Option.bind (loopM (S := Int × Int) (R := (Int)) (fun (x7, x8) => cond (decide (x8 < (w_.parts.length : Int))) (Option.bind (ixo w_.parts x8) fun y10 => Option.bind (P.M87_weight y10) fun z18 => Option.bind (P.M87_points y10 x) fun z23 => Option.bind (chk .i64 (z18 * z23)) fun n28 => Option.bind (chk .i64 (x7 + n28)) fun n29 => Option.bind (chk .i64 (x8 + 1)) fun n30 => some (.inl (n29, n30))) (some (.inr x7))) (0, 0)) fun x31 => some x31

theorem C_score_works_score {M : List Nat} {w : World} (hM : MLt M w) {w_ : Works} {v_w__1 : Value} {v_w__2 : Value} {v_w__4 : Value} (f_w__0 : InK IntKind.i64 w_.model.traits) (f_w__1 : RdS CardE M w v_w__1 w_.model.cards) (f_w__2 : RdS TreeE M w v_w__2 w_.model.trees) (f_w__3 : InK IntKind.i64 w_.model.need) (f_w__4 : RdS I87E M w v_w__4 w_.parts) {x : (List Int)} {v_x_0 : Value} (f_x_0 : RdS (intE .i64) M w v_x_0 x) {r0 : Int} (h : P.score_works_score w_ x = some r0) :
    Calls Try.prog 32 (List.toArray [Value.agg (List.toArray [Value.int IntKind.i64 w_.model.traits, v_w__1, v_w__2, Value.int IntKind.i64 w_.model.need, v_w__4]), v_x_0]) w fun e w' => e = .returned (Value.int IntKind.i64 r0) ∧ InK IntKind.i64 r0 ∧ Ext w w' := by
  have hI := Hp.start (Mu := []) hM
  refine calls_cw Try.func32 rfl Try.ntmps32 rfl ?_
  refine cw_seq ?_
  refine cw_regF ?_
  refine y_box hI rfl rfl rfl ?_
  intro b1 w2 hI3 x4
  have hC6 := hI3.freezeRow 0 rfl
  have hI5 := hI3.erase 0
  refine s_as rfl rfl ?_
  refine Reg.nil ?_
  refine cw_seq ?_
  refine cw_seq ?_
  refine cw_regF ?_
  refine s_fa rfl Try.underlying80 rfl Try.sizeOf78 rfl ?_
  refine s_ld rfl (hC6.cells.at 4 rfl) Try.isAgg78 rfl ?_
  refine s_len rfl (f_w__4.adv hI5.adv) Try.underlying78 rfl ?_
  refine s_mv rfl rfl ?_
  refine Reg.nil ?_
  obtain ⟨j7, h8, h⟩ := bnd h
  refine cw_sub (L := [(1, _), (4, _), (8, _), (9, _), (10, _)]) (Sub.cons rfl (Sub.cons rfl (Sub.cons rfl (Sub.cons rfl (Sub.cons rfl (Sub.nil _)))))) ?_
  refine cw_unitD 5 (ι := Int) (fun x9 => [(4, Value.int IntKind.i64 (x9))]) (fun x9 => fun w11 => Hp w [] M [] w11 ∧ Adv (mm [] M) (mm [] M) w2 w11 ∧ InK IntKind.i64 x9 ∧ x9 = j7) ?_ ?_
  · skip
    refine cw_block ?_
    refine cw_sub (L := [(4, _), (10, _), (1, _), (8, _), (9, _)]) (Sub.cons rfl (Sub.cons rfl (Sub.cons rfl (Sub.cons rfl (Sub.cons rfl (Sub.nil _)))))) ?_
    refine cw_loopM 2 (ι := Int × Int) _ (fun ⟨x14, x16⟩ => [(4, Value.int IntKind.i64 (x14)), (10, Value.int IntKind.i64 (x16))]) (fun ⟨x14, x16⟩ => (x14, x16)) (fun ⟨x14, x16⟩ => fun w18 => Hp w [] M [] w18 ∧ Adv (mm [] M) (mm [] M) w2 w18 ∧ InK IntKind.i64 x14 ∧ InK IntKind.i64 x16) (0, 0) h8 ⟨hI5, (Adv.refl _ _), (by decide), (by decide)⟩ (Sub.cons rfl (Sub.cons rfl (Sub.cons rfl (Sub.cons rfl (Sub.cons rfl (Sub.nil _)))))) ?_
    rintro ⟨x14, x16⟩ w18 ⟨hI19, hA20, r15, r17⟩ y21 h22 hR23
    refine cw_seq ?_
    refine cw_regF ?_
    refine s_lss rfl rfl rfl ?_
    refine Reg.nil ?_
    refine cw_seq ?_
    refine cw_cond rfl (fun hc24 => ?_) (fun hc24 => ?_)
    · replace h22 := cdT hc24 h22
      refine cw_skip ?_
      refine cw_seq ?_
      refine cw_block ?_
      refine cw_seq ?_
      refine cw_regF ?_
      obtain ⟨y25, hy25, h22⟩ := bnd h22
      refine p_ia rfl rfl (f_w__4.adv hI19.adv) hy25 Try.underlying78 Try.sizeOf87 rfl ?_
      intro b26 o27 cs28 hR29 hC30
      obtain ⟨v31, rfl, hf32⟩ := I87E_one hR29
      refine s_ld rfl (hC30.cells.at 0 rfl) Try.isAgg87 rfl ?_
      refine s_as rfl rfl ?_
      refine Reg.nil ?_
      refine cw_regF ?_
      refine s_mv rfl rfl ?_
      refine s_mv rfl rfl ?_
      obtain ⟨z33, hz33, h22⟩ := bnd h22
      refine s_invD rfl rfl rfl ?_
      refine (C_M87_weight (fun _ _ => by kernel_rfl) (fun _ _ => by kernel_rfl) hI19.mlt hf32 hz33).mono ?_
      rintro _ w34 ⟨rfl, r36, e35⟩
      refine ⟨_, rfl, ?_⟩
      have hI37 := hI19.ext e35
      refine s_mv rfl rfl ?_
      refine s_mv rfl rfl ?_
      obtain ⟨z38, hz38, h22⟩ := bnd h22
      refine s_invD rfl rfl rfl ?_
      refine (C_M87_points (fun _ _ => by kernel_rfl) (fun _ _ => by kernel_rfl) hI37.mlt (I87E.adv hf32 (Adv.of_ext e35)) (f_x_0.adv hI37.adv) hz38).mono ?_
      rintro _ w39 ⟨rfl, r41, e40⟩
      refine ⟨_, rfl, ?_⟩
      have hI42 := hI37.ext e40
      obtain ⟨n43, hn43, h22⟩ := bnd h22
      replace hn43 := chk_out hn43
      refine p_mul rfl rfl rfl hn43 ?_
      obtain ⟨n44, hn44, h22⟩ := bnd h22
      replace hn44 := chk_out hn44
      refine p_add rfl rfl rfl hn44 ?_
      refine s_as rfl rfl ?_
      refine Reg.nil ?_
      refine cw_regF ?_
      obtain ⟨n45, hn45, h22⟩ := bnd h22
      replace hn45 := chk_out hn45
      refine p_add rfl rfl rfl hn45 ?_
      refine s_mv rfl rfl ?_
      refine Reg.nil ?_
      obtain rfl := Option.some.inj h22
      refine ⟨rfl, (n44, n45), ⟨⟨hI42, (hA20.trans ((Adv.of_ext e35).trans (Adv.of_ext e40))), hn44.2, hn45.2⟩, rfl⟩, Sub.cons rfl (Sub.cons rfl (Sub.cons rfl (Sub.cons rfl (Sub.cons rfl (Sub.nil _)))))⟩
    · replace h22 := cdF hc24 h22
      refine cw_exit ?_
      refine exB_same ?_
      obtain rfl := Option.some.inj h22
      obtain rfl := hR23 _ rfl
      refine ⟨rfl, x14, ⟨hI19, hA20, r15, rfl⟩, Sub.cons rfl (Sub.nil _)⟩
  · skip
    rintro x9 w11 ⟨hI12, hA13, r10, rfl⟩
    refine cw_seq ?_
    refine cw_regF ?_
    refine s_mv rfl rfl ?_
    refine s_as rfl rfl ?_
    refine Reg.nil ?_
    refine cw_ret ?_
    obtain rfl := Option.some.inj h
    refine fin1 Try.results32 rfl ?_
    exact ⟨rfl, r10, hI12.kp⟩

noncomputable def P.score_works_enough (w_ : Works) (score : Int) : Option Bool :=
  Option.bind (chk .i64 (w_.model.need * 1000)) fun n7 => some (decide (n7 ≤ score))

theorem C_score_works_enough {M : List Nat} {w : World} (hM : MLt M w) {w_ : Works} {v_w__1 : Value} {v_w__2 : Value} {v_w__4 : Value} (f_w__0 : InK IntKind.i64 w_.model.traits) (f_w__1 : RdS CardE M w v_w__1 w_.model.cards) (f_w__2 : RdS TreeE M w v_w__2 w_.model.trees) (f_w__3 : InK IntKind.i64 w_.model.need) (f_w__4 : RdS I87E M w v_w__4 w_.parts) {score : Int} (f_score_0 : InK IntKind.i64 score) {r0 : Bool} (h : P.score_works_enough w_ score = some r0) :
    Calls Try.prog 33 (List.toArray [Value.agg (List.toArray [Value.int IntKind.i64 w_.model.traits, v_w__1, v_w__2, Value.int IntKind.i64 w_.model.need, v_w__4]), Value.int IntKind.i64 score]) w fun e w' => e = .returned (Value.bool r0) ∧ Ext w w' := by
  have hI := Hp.start (Mu := []) hM
  refine calls_cw Try.func33 rfl Try.ntmps33 rfl ?_
  refine cw_seq ?_
  refine cw_regF ?_
  refine y_box hI rfl rfl rfl ?_
  intro b1 w2 hI3 x4
  have hC6 := hI3.freezeRow 0 rfl
  have hI5 := hI3.erase 0
  refine s_as rfl rfl ?_
  refine Reg.nil ?_
  refine cw_seq ?_
  refine cw_regF ?_
  refine s_mv rfl rfl ?_
  refine s_fa rfl Try.underlying80 rfl Try.sizeOf25 rfl ?_
  refine s_fa rfl Try.underlying25 rfl Try.sizeOf3 rfl ?_
  refine s_ld rfl (hC6.cells.at 3 rfl) Try.isAgg3 rfl ?_
  obtain ⟨n7, hn7, h⟩ := bnd h
  replace hn7 := chk_out hn7
  refine p_mul rfl rfl rfl hn7 ?_
  refine s_geq rfl rfl rfl ?_
  refine s_as rfl rfl ?_
  refine Reg.nil ?_
  refine cw_ret ?_
  obtain rfl := Option.some.inj h
  refine fin1 Try.results33 rfl ?_
  exact ⟨rfl, hI5.kp⟩

noncomputable def P.score_Score (m : Model) (x : (List Int)) : Option (Int × Bool × Int) :=
  Option.bind (P.score_asked (Model.mk m.traits m.cards m.trees m.need) x) fun (z7, z8) => cond (!decide (z8 = 0)) (some (0, false, z8)) (Option.bind (P.score_works_score (Works.mk (Model.mk z7.model.traits z7.model.cards z7.model.trees z7.model.need) z7.parts) x) fun z32 => Option.bind (P.score_works_enough (Works.mk (Model.mk z7.model.traits z7.model.cards z7.model.trees z7.model.need) z7.parts) z32) fun z38 => some (z32, z38, 0))

theorem C_score_Score {M : List Nat} {w : World} (hM : MLt M w) {m : Model} {v_m_1 : Value} {v_m_2 : Value} (f_m_0 : InK IntKind.i64 m.traits) (f_m_1 : RdS CardE M w v_m_1 m.cards) (f_m_2 : RdS TreeE M w v_m_2 m.trees) (f_m_3 : InK IntKind.i64 m.need) {x : (List Int)} {v_x_0 : Value} (f_x_0 : RdS (intE .i64) M w v_x_0 x) {r0 : Int} {r1 : Bool} {r2 : Int} (h : P.score_Score m x = some (r0, r1, r2)) :
    Calls Try.prog 14 (List.toArray [Value.agg (List.toArray [Value.int IntKind.i64 m.traits, v_m_1, v_m_2, Value.int IntKind.i64 m.need]), v_x_0]) w fun e w' => e = .returned (Value.tuple (List.toArray [Value.int IntKind.i64 r0, Value.bool r1, Value.int IntKind.i64 r2])) ∧ InK IntKind.i64 r0 ∧ InK IntKind.i64 r2 ∧ Ext w w' := by
  have hI := Hp.start (Mu := []) hM
  refine calls_cw Try.func14 rfl Try.ntmps14 rfl ?_
  refine cw_seq ?_
  refine cw_regF ?_
  refine y_box hI rfl rfl rfl ?_
  intro b1 w2 hI3 x4
  have hC6 := hI3.freezeRow 0 rfl
  have hI5 := hI3.erase 0
  refine s_as rfl rfl ?_
  refine s_as rfl rfl ?_
  refine s_as rfl rfl ?_
  refine Reg.nil ?_
  refine cw_seq ?_
  refine cw_regF ?_
  refine s_lda rfl hC6.cells Try.isAgg25 rfl Try.sizeOf25 rfl ?_
  refine s_mv rfl rfl ?_
  obtain ⟨⟨z7, z8⟩, hz9, h⟩ := bnd h
  refine s_call rfl Try.call31 rfl ?_
  refine (C_score_asked hI5.mlt f_m_0 (f_m_1.adv hI5.adv) (f_m_2.adv hI5.adv) f_m_3 (f_x_0.adv hI5.adv) hz9).mono ?_
  rintro _ w10 ⟨v13, v15, v18, rfl, r12, hf14, hf16, r17, hf19, r20, e11⟩
  refine ⟨_, rfl, ?_⟩
  have hI21 := hI5.ext e11
  refine s_mv rfl rfl ?_
  refine s_xt rfl rfl rfl ?_
  refine s_xt rfl rfl rfl ?_
  refine y_al hI21 Try.zeroValue80 rfl rfl ?_
  intro b22 w23 hI24 x25
  refine y_st 0 hI24 rfl rfl rfl rfl Try.sizeOf80 rfl rfl (one1 rfl (one1 (RdS.oneC hf14) (one1 (RdS.oneC hf16) (one1 rfl (one1 (RdS.oneC hf19) one0))))) ?_
  intro w26 hI27 x28
  have hC30 := hI27.freezeRow 0 rfl
  have hI29 := hI27.erase 0
  refine s_as rfl rfl ?_
  refine Reg.nil ?_
  refine cw_seq ?_
  refine cw_seq ?_
  refine cw_regF ?_
  refine s_mv rfl rfl ?_
  refine s_neq rfl rfl rfl ?_
  refine Reg.nil ?_
  refine cw_cond rfl (fun hc31 => ?_) (fun hc31 => ?_)
  · replace h := cdT hc31 h
    refine cw_seq ?_
    refine cw_regF ?_
    refine s_mv rfl rfl ?_
    refine s_as rfl rfl ?_
    refine s_as rfl rfl ?_
    refine s_as rfl rfl ?_
    refine Reg.nil ?_
    refine cw_ret ?_
    obtain ⟨rfl, rfl, rfl⟩ := inj3 h
    refine fin3 Try.results14 rfl rfl rfl ?_
    exact ⟨rfl, (by decide), r20, hI29.kp⟩
  · replace h := cdF hc31 h
    refine cw_skip ?_
    refine cw_seq ?_
    refine cw_regF ?_
    refine s_lda rfl hC30.cells Try.isAgg80 rfl Try.sizeOf80 rfl ?_
    refine s_mv rfl rfl ?_
    obtain ⟨z32, hz33, h⟩ := bnd h
    refine s_call rfl Try.call32 rfl ?_
    refine (C_score_works_score hI29.mlt r12 (hf14.adv (x25.trans (x28.trans (Hp.eraseA (σ := [rowR 80 b22 [Value.int IntKind.i64 (z7.model.traits), v13, v15, Value.int IntKind.i64 (z7.model.need), v18]]) 0)))) (hf16.adv (x25.trans (x28.trans (Hp.eraseA (σ := [rowR 80 b22 [Value.int IntKind.i64 (z7.model.traits), v13, v15, Value.int IntKind.i64 (z7.model.need), v18]]) 0)))) r17 (hf19.adv (x25.trans (x28.trans (Hp.eraseA (σ := [rowR 80 b22 [Value.int IntKind.i64 (z7.model.traits), v13, v15, Value.int IntKind.i64 (z7.model.need), v18]]) 0)))) (f_x_0.adv hI29.adv) hz33).mono ?_
    rintro _ w34 ⟨rfl, r36, e35⟩
    refine ⟨_, rfl, ?_⟩
    have hI37 := hI29.ext e35
    refine s_as rfl rfl ?_
    refine Reg.nil ?_
    refine cw_seq ?_
    refine cw_regF ?_
    refine s_mv rfl rfl ?_
    refine s_lda rfl (hC30.adv (Adv.of_ext e35)).cells Try.isAgg80 rfl Try.sizeOf80 rfl ?_
    refine s_mv rfl rfl ?_
    obtain ⟨z38, hz39, h⟩ := bnd h
    refine s_call rfl Try.call33 rfl ?_
    refine (C_score_works_enough hI37.mlt r12 (hf14.adv (x25.trans (x28.trans ((Hp.eraseA (σ := [rowR 80 b22 [Value.int IntKind.i64 (z7.model.traits), v13, v15, Value.int IntKind.i64 (z7.model.need), v18]]) 0).trans (Adv.of_ext e35))))) (hf16.adv (x25.trans (x28.trans ((Hp.eraseA (σ := [rowR 80 b22 [Value.int IntKind.i64 (z7.model.traits), v13, v15, Value.int IntKind.i64 (z7.model.need), v18]]) 0).trans (Adv.of_ext e35))))) r17 (hf19.adv (x25.trans (x28.trans ((Hp.eraseA (σ := [rowR 80 b22 [Value.int IntKind.i64 (z7.model.traits), v13, v15, Value.int IntKind.i64 (z7.model.need), v18]]) 0).trans (Adv.of_ext e35))))) r36 hz39).mono ?_
    rintro _ w40 ⟨rfl, e41⟩
    refine ⟨_, rfl, ?_⟩
    have hI42 := hI37.ext e41
    refine s_as rfl rfl ?_
    refine s_as rfl rfl ?_
    refine s_as rfl rfl ?_
    refine Reg.nil ?_
    refine cw_ret ?_
    obtain ⟨rfl, rfl, rfl⟩ := inj3 h
    refine fin3 Try.results14 rfl rfl rfl ?_
    exact ⟨rfl, r36, (by decide), hI42.kp⟩

noncomputable def P.score_Points (m : Model) (x : (List Int)) : Option ((List Int) × Int) :=
  Option.bind (P.score_asked (Model.mk m.traits m.cards m.trees m.need) x) fun (z7, z8) => cond (!decide (z8 = 0)) (some ([], z8)) (Option.bind (loopM (S := (List Int) × Int) (R := ((List Int))) (fun (x32, x33) => cond (decide (x33 < (z7.parts.length : Int))) (Option.bind (ixo z7.parts x33) fun y35 => Option.bind (P.M87_points y35 x) fun z43 => Option.bind (appo 8 x32 ([z43] : List Int)) fun l54 => Option.bind (chk .i64 (x33 + 1)) fun n59 => some (.inl (l54, n59))) (some (.inr x32))) ([], 0)) fun x60 => some (x60, 0))

theorem C_score_Points {M : List Nat} {w : World} (hM : MLt M w) {m : Model} {v_m_1 : Value} {v_m_2 : Value} (f_m_0 : InK IntKind.i64 m.traits) (f_m_1 : RdS CardE M w v_m_1 m.cards) (f_m_2 : RdS TreeE M w v_m_2 m.trees) (f_m_3 : InK IntKind.i64 m.need) {x : (List Int)} {v_x_0 : Value} (f_x_0 : RdS (intE .i64) M w v_x_0 x) {r0 : (List Int)} {r1 : Int} (h : P.score_Points m x = some (r0, r1)) :
    Calls Try.prog 16 (List.toArray [Value.agg (List.toArray [Value.int IntKind.i64 m.traits, v_m_1, v_m_2, Value.int IntKind.i64 m.need]), v_x_0]) w fun e w' => ∃ v0_0 : Value, e = .returned (Value.tuple (List.toArray [v0_0, Value.int IntKind.i64 r1])) ∧ (Own (intE .i64) 3 0 M w' v0_0 r0 ∧ ∀ b ∈ ob v0_0, w.heap.size ≤ b) ∧ InK IntKind.i64 r1 ∧ Ext w w' := by
  have hI := Hp.start (Mu := []) hM
  refine calls_cw Try.func16 rfl Try.ntmps16 rfl ?_
  refine cw_seq ?_
  refine cw_regF ?_
  refine y_box hI rfl rfl rfl ?_
  intro b1 w2 hI3 x4
  have hC6 := hI3.freezeRow 0 rfl
  have hI5 := hI3.erase 0
  refine s_as rfl rfl ?_
  refine s_as rfl rfl ?_
  refine Reg.nil ?_
  refine cw_seq ?_
  refine cw_regF ?_
  refine s_lda rfl hC6.cells Try.isAgg25 rfl Try.sizeOf25 rfl ?_
  refine s_mv rfl rfl ?_
  obtain ⟨⟨z7, z8⟩, hz9, h⟩ := bnd h
  refine s_call rfl Try.call31 rfl ?_
  refine (C_score_asked hI5.mlt f_m_0 (f_m_1.adv hI5.adv) (f_m_2.adv hI5.adv) f_m_3 (f_x_0.adv hI5.adv) hz9).mono ?_
  rintro _ w10 ⟨v13, v15, v18, rfl, r12, hf14, hf16, r17, hf19, r20, e11⟩
  refine ⟨_, rfl, ?_⟩
  have hI21 := hI5.ext e11
  refine s_mv rfl rfl ?_
  refine s_xt rfl rfl rfl ?_
  refine s_xt rfl rfl rfl ?_
  refine y_al hI21 Try.zeroValue80 rfl rfl ?_
  intro b22 w23 hI24 x25
  refine y_st 0 hI24 rfl rfl rfl rfl Try.sizeOf80 rfl rfl (one1 rfl (one1 (RdS.oneC hf14) (one1 (RdS.oneC hf16) (one1 rfl (one1 (RdS.oneC hf19) one0))))) ?_
  intro w26 hI27 x28
  have hC30 := hI27.freezeRow 0 rfl
  have hI29 := hI27.erase 0
  refine s_as rfl rfl ?_
  refine Reg.nil ?_
  refine cw_seq ?_
  refine cw_seq ?_
  refine cw_regF ?_
  refine s_mv rfl rfl ?_
  refine s_neq rfl rfl rfl ?_
  refine Reg.nil ?_
  refine cw_cond rfl (fun hc31 => ?_) (fun hc31 => ?_)
  · replace h := cdT hc31 h
    refine cw_seq ?_
    refine cw_regF ?_
    refine s_mv rfl rfl ?_
    refine s_as rfl rfl ?_
    refine s_as rfl rfl ?_
    refine Reg.nil ?_
    refine cw_ret ?_
    obtain ⟨rfl, rfl⟩ := inj2 h
    refine fin2 Try.results16 rfl rfl ?_
    exact ⟨_, rfl, ⟨Own.nil _ _ _ _ _, fun _ hb => by cases hb⟩, r20, hI29.kp⟩
  · replace h := cdF hc31 h
    refine cw_skip ?_
    refine cw_seq ?_
    refine cw_regF ?_
    refine s_as rfl rfl ?_
    refine Reg.nil ?_
    refine cw_seq ?_
    refine cw_seq ?_
    refine cw_regF ?_
    refine s_fa rfl Try.underlying80 rfl Try.sizeOf78 rfl ?_
    refine s_ld rfl (hC30.cells.at 4 rfl) Try.isAgg78 rfl ?_
    refine s_len rfl (hf19.adv (x25.trans (x28.trans (Hp.eraseA (σ := [rowR 80 b22 [Value.int IntKind.i64 (z7.model.traits), v13, v15, Value.int IntKind.i64 (z7.model.need), v18]]) 0)))) Try.underlying78 rfl ?_
    refine s_mv rfl rfl ?_
    refine Reg.nil ?_
    obtain ⟨j32, h33, h⟩ := bnd h
    refine cw_sub (L := [(1, _), (8, _), (21, _), (22, _), (23, _)]) (Sub.cons rfl (Sub.cons rfl (Sub.cons rfl (Sub.cons rfl (Sub.cons rfl (Sub.nil _)))))) ?_
    refine cw_unitD 5 (ι := (List Int) × Value) (fun ⟨x34, v35⟩ => [(8, v35)]) (fun ⟨x34, v35⟩ => fun w36 => Hp w [] M [ownR [] (intE .i64) 3 v35 x34] w36 ∧ Adv (mm [] M) (mm [ownR [] (intE .i64) 3 v35 x34] M) w26 w36 ∧ x34 = j32) ?_ ?_
    · skip
      refine cw_block ?_
      refine cw_sub (L := [(8, _), (23, _), (1, _), (21, _), (22, _)]) (Sub.cons rfl (Sub.cons rfl (Sub.cons rfl (Sub.cons rfl (Sub.cons rfl (Sub.nil _)))))) ?_
      have hI46 := hI29.addNil (intE .i64) 3
      refine cw_loopM 2 (ι := (List Int) × Int × Value) _ (fun ⟨x39, x41, v40⟩ => [(8, v40), (23, Value.int IntKind.i64 (x41))]) (fun ⟨x39, x41, v40⟩ => (x39, x41)) (fun ⟨x39, x41, v40⟩ => fun w43 => Hp w [] M [ownR [] (intE .i64) 3 v40 x39] w43 ∧ Adv (mm [] M) (mm [ownR [] (intE .i64) 3 v40 x39] M) w26 w43 ∧ InK IntKind.i64 x41) (([] : List Int), 0, (Value.slice none 0 0)) h33 ⟨hI46, (Hp.addNilA (σ := []) (intE .i64) 3), (by decide)⟩ (Sub.cons rfl (Sub.cons rfl (Sub.cons rfl (Sub.cons rfl (Sub.cons rfl (Sub.nil _)))))) ?_
      rintro ⟨x39, x41, v40⟩ w43 ⟨hI44, hA45, r42⟩ y47 h48 hR49
      refine cw_seq ?_
      refine cw_regF ?_
      refine s_lss rfl rfl rfl ?_
      refine Reg.nil ?_
      refine cw_seq ?_
      refine cw_cond rfl (fun hc50 => ?_) (fun hc50 => ?_)
      · replace h48 := cdT hc50 h48
        refine cw_skip ?_
        refine cw_seq ?_
        refine cw_block ?_
        refine cw_seq ?_
        refine cw_regF ?_
        obtain ⟨y51, hy51, h48⟩ := bnd h48
        refine p_ia rfl rfl (hf19.adv (x25.trans (x28.trans ((Hp.eraseA (σ := [rowR 80 b22 [Value.int IntKind.i64 (z7.model.traits), v13, v15, Value.int IntKind.i64 (z7.model.need), v18]]) 0).trans hA45)))) hy51 Try.underlying78 Try.sizeOf87 rfl ?_
        intro b52 o53 cs54 hR55 hC56
        obtain ⟨v57, rfl, hf58⟩ := I87E_one hR55
        refine s_ld rfl (hC56.cells.at 0 rfl) Try.isAgg87 rfl ?_
        refine s_as rfl rfl ?_
        refine Reg.nil ?_
        refine cw_regF ?_
        refine s_mv rfl rfl ?_
        refine s_mv rfl rfl ?_
        refine s_mv rfl rfl ?_
        obtain ⟨z59, hz59, h48⟩ := bnd h48
        refine s_invD rfl rfl rfl ?_
        refine (C_M87_points (fun _ _ => by kernel_rfl) (fun _ _ => by kernel_rfl) hI44.mlt hf58 (f_x_0.adv hI44.adv) hz59).mono ?_
        rintro _ w60 ⟨rfl, r62, e61⟩
        refine ⟨_, rfl, ?_⟩
        have hI63 := hI44.ext e61
        refine y_bs (E := (intE .i64)) (xs := [z59]) sl26 hI63 rfl rfl (Cls.cons rfl Cls.nil) (Chs.cons ⟨rfl, r62⟩ Chs.nil) rfl rfl ?_
        intro v64 w65 hI66 x67
        have hf68 := hI66.freeze 0 rfl
        have hI69 := hI66.erase 0
        obtain ⟨l70, hl70, h48⟩ := bnd h48
        obtain ⟨hbl70, el70⟩ := appo_out hl70
        refine y_app 0 sl26 hI69 rfl rfl rfl hf68 hbl70 rfl ?_
        rw [← el70]
        intro v71 w72 hI73 x74
        refine s_as rfl rfl ?_
        refine Reg.nil ?_
        refine cw_regF ?_
        obtain ⟨n75, hn75, h48⟩ := bnd h48
        replace hn75 := chk_out hn75
        refine p_add rfl rfl rfl hn75 ?_
        refine s_mv rfl rfl ?_
        refine Reg.nil ?_
        obtain rfl := Option.some.inj h48
        refine ⟨rfl, (l70, n75, v71), ⟨⟨hI73, (hA45.trans ((Adv.of_ext e61).trans (x67.trans ((Hp.eraseA (σ := [ownR [] (intE .i64) 3 v64 ([z59] : List Int), ownR [] (intE .i64) 3 v40 x39]) 0).trans x74)))), hn75.2⟩, rfl⟩, Sub.cons rfl (Sub.cons rfl (Sub.cons rfl (Sub.cons rfl (Sub.cons rfl (Sub.nil _)))))⟩
      · replace h48 := cdF hc50 h48
        refine cw_exit ?_
        refine exB_same ?_
        obtain rfl := Option.some.inj h48
        obtain rfl := hR49 _ rfl
        refine ⟨rfl, (x39, v40), ⟨hI44, hA45, rfl⟩, Sub.cons rfl (Sub.nil _)⟩
    · skip
      rintro ⟨x34, v35⟩ w36 ⟨hI37, hA38, rfl⟩
      refine cw_seq ?_
      refine cw_regF ?_
      refine s_mv rfl rfl ?_
      refine s_as rfl rfl ?_
      refine s_as rfl rfl ?_
      refine Reg.nil ?_
      refine cw_ret ?_
      obtain ⟨rfl, rfl⟩ := inj2 h
      refine fin2 Try.results16 rfl rfl ?_
      exact ⟨_, rfl, (hI37.ownOut 0 rfl), (by decide), hI37.kp⟩

end Go.Proofs.Ytecmlmngcnionaa
