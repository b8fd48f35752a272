/-
  What the reference of the score reckons is what the plain text of it says: cards, trees, models.
-/
import Derived.Test.YtecmlmngcnionaaPureScore1
namespace Go.Proofs.Ytecmlmngcnionaa
open Go Go.Sx
namespace S
theorem p_card (c : Card) (traits : Int) (h : c.scales.length ≤ 1000000) : P.ref06_card c traits = some (cardOk c traits) := by
  unfold P.ref06_card cardOk
  simp only [p_within, p_points, bindS]
  cases h1 : decide (0 ≤ c.weight ∧ c.weight ≤ 1000) with
  | false => simp only [notF, condT, bindS, Bool.false_and]
  | true =>
    simp only [notT, condF, Bool.true_and]
    cases h2 : pt c.base with
    | false => simp only [notF, condT, bindS, Bool.false_and]
    | true =>
      simp only [notT, condF, Bool.true_and]
      cases h3 : decide ((c.scales.length : Int) = traits) with
      | false => simp only [notF, condT, bindS, Bool.false_and]
      | true =>
        have h3 := of_decide_eq_true h3
        subst h3
        simp only [notT, condF, bindS, Bool.true_and]
        rw [loop_any0 c.scales (fun y => !scaleOk y) (.inr false) (.inl ()) (fun i y hy => by
          have hi := get_lt hy
          simp only [lt_cast hi, condT, ixo_at hy, bindS, p_scale, chk_nat (i := i) (by omega)]
          cases scaleOk y <;> simp) (by simp only [not_lt_cast, condF])]
        rw [List.all_eq_not_any_not]
        cases (c.scales.any fun y => !scaleOk y) <;> simp
theorem p_tree (t : Tree) (traits : Int) (h : t.nodes.length ≤ 1000000) (ht : 1 ≤ traits ∧ traits ≤ 5) : P.ref06_tree t traits = some (treeOk t traits) := by
  unfold P.ref06_tree treeOk
  simp only [p_within, p_points, bindS]
  have e1 : decide (1 ≤ (t.nodes.length : Int) ∧ (t.nodes.length : Int) ≤ 7) = decide (1 ≤ t.nodes.length ∧ t.nodes.length ≤ 7) := by
    rw [Bool.eq_iff_iff]; simp only [decide_eq_true_eq]; omega
  rw [e1]
  cases h1 : decide (0 ≤ t.weight ∧ t.weight ≤ 1000) with
  | false => simp only [notF, condT, bindS, Bool.false_and]
  | true =>
    simp only [notT, condF, Bool.true_and]
    cases h2 : decide (1 ≤ t.nodes.length ∧ t.nodes.length ≤ 7) with
    | false => simp only [notF, condT, bindS, Bool.false_and]
    | true =>
      simp only [notT, condF, bindS, Bool.true_and]
      rw [loop_any t.nodes (fun y i => !nodeOk traits t.nodes.length i y) (.inr false) (.inl ()) (fun i y hy => by
        have hi := get_lt hy
        have hc : chk .i64 (traits - 1) = some (traits - 1) := chk_i64 (by omega)
        simp only [lt_cast hi, condT, ixo_at hy, bindS, hc, chk_nat (i := i) (by omega), nodeOk]
        cases e1 : pt y.points with
        | false => simp only [notF, condT, bindS, elimRS, Bool.false_and]
        | true =>
          simp only [notT, condF, Bool.true_and]
          by_cases e2 : y.trait = -1
          · simp only [e2, decide_true, condT]
            by_cases e3 : y.cut = 0 <;> by_cases e4 : y.low = 0 <;> by_cases e5 : y.high = 0 <;> simp [e3, e4, e5]
          · have e2' : decide (y.trait = -1) = false := decide_eq_false e2
            simp only [e2', condF]
            have key : (bif !decide (0 ≤ y.trait ∧ y.trait ≤ traits - 1) then some true else bif !decide (1 ≤ y.cut ∧ y.cut ≤ 1000000) then some true else
                bif decide (y.low ≤ (i : Int)) then some true else bif decide (y.high ≤ (i : Int)) then some true else bif decide ((t.nodes.length : Int) ≤ y.low) then some true else
                bif decide ((t.nodes.length : Int) ≤ y.high) then some true else bif decide (y.low = y.high) then some true else some (!decide (y.points = 0))) =
                some (!decide (0 ≤ y.trait ∧ y.trait ≤ traits - 1 ∧ 1 ≤ y.cut ∧ y.cut ≤ 1000000 ∧ (i : Int) < y.low ∧ (i : Int) < y.high ∧ y.low < t.nodes.length ∧ y.high < t.nodes.length ∧ y.low ≠ y.high ∧ y.points = 0)) := by
              simp only [Bool.cond_eq_ite, Bool.not_eq_true', decide_eq_true_eq, decide_eq_false_iff_not]
              repeat' split
              all_goals (congr 1; rw [Bool.eq_iff_iff]; simp only [Bool.not_eq_true', decide_eq_false_iff_not, Bool.true_eq_false, iff_false, iff_true, true_iff, decide_eq_true_eq, eq_self_iff_true] <;> omega)
            rw [key]
            have e6 : decide (y.trait = -1 ∧ y.cut = 0 ∧ y.low = 0 ∧ y.high = 0) = false := by simp [e2]
            rw [e6, Bool.false_or]
            simp only [bindS]
            cases decide (0 ≤ y.trait ∧ y.trait ≤ traits - 1 ∧ 1 ≤ y.cut ∧ y.cut ≤ 1000000 ∧ (i : Int) < y.low ∧ (i : Int) < y.high ∧ y.low < t.nodes.length ∧ y.high < t.nodes.length ∧ y.low ≠ y.high ∧ y.points = 0) <;> simp) (by simp only [not_lt_cast, condF])]
      rw [List.all_eq_not_any_not]
      cases (t.nodes.zipIdx.any fun p => !nodeOk traits t.nodes.length p.2 p.1) <;> simp
theorem p_check (m : Model) (h1 : m.cards.length ≤ 6) (h2 : m.trees.length ≤ 6) (h3 : ∀ c ∈ m.cards, c.scales.length ≤ 10) (h4 : ∀ t ∈ m.trees, t.nodes.length ≤ 20) : P.ref06_Check m = some (check m) := by
  unfold P.ref06_Check check modelOk
  simp only [p_within, p_points, bindS]
  cases e1 : decide (1 ≤ m.traits ∧ m.traits ≤ 5) with
  | false => simp only [notF, condT, bindS, Bool.false_and, Bool.false_eq_true, if_false]
  | true =>
    have e1 := of_decide_eq_true e1
    simp only [notT, condF, Bool.true_and]
    cases e2 : pt m.need with
    | false => simp only [notF, condT, bindS, Bool.false_and, Bool.false_eq_true, if_false]
    | true =>
      simp only [notT, condF, Bool.true_and]
      by_cases e3 : m.cards.length ≤ 2
      · have e3' : decide ((2 : Int) < m.cards.length) = false := decide_eq_false (by omega)
        simp only [e3, e3', decide_true, condF, Bool.true_and]
        by_cases e4 : m.trees.length ≤ 2
        · have e4' : decide ((2 : Int) < m.trees.length) = false := decide_eq_false (by omega)
          simp only [e4, e4', decide_true, condF, bindS, Bool.true_and]
          rw [loop_any0 m.cards (fun y => !cardOk y m.traits) (.inr 60) (.inl ()) (fun i y hy => by
            have hi := get_lt hy
            have := h3 y (List.mem_of_getElem? hy)
            simp only [lt_cast hi, condT, ixo_at hy, bindS, p_card y m.traits (by omega), chk_nat (i := i) (by omega)]
            cases cardOk y m.traits <;> simp) (by simp only [not_lt_cast, condF])]
          rw [List.all_eq_not_any_not (l := m.cards), List.all_eq_not_any_not (l := m.trees)]
          cases (m.cards.any fun y => !cardOk y m.traits) with
          | true => simp
          | false =>
            simp only [condF, bindS, elimLS, notF, Bool.true_and]
            rw [loop_any0 m.trees (fun y => !treeOk y m.traits) (.inr 60) (.inl ()) (fun i y hy => by
              have hi := get_lt hy
              have := h4 y (List.mem_of_getElem? hy)
              simp only [lt_cast hi, condT, ixo_at hy, bindS, p_tree y m.traits (by omega) e1, chk_nat (i := i) (by omega)]
              cases treeOk y m.traits <;> simp) (by simp only [not_lt_cast, condF])]
            cases (m.trees.any fun y => !treeOk y m.traits) <;> simp
        · have e4' : decide ((2 : Int) < m.trees.length) = true := decide_eq_true (by omega)
          simp only [e4, e4', decide_false, condT, bindS, Bool.false_and, Bool.false_eq_true, if_false]
      · have e3' : decide ((2 : Int) < m.cards.length) = true := decide_eq_true (by omega)
        simp only [e3, e3', decide_false, condT, bindS, Bool.false_and, Bool.false_eq_true, if_false]
theorem p_values (m : Model) (x : List Int) (h : x.length ≤ 1000000) : P.ref06_Values m x = some (valuesOk m x) := by
  unfold P.ref06_Values valuesOk
  cases e1 : decide ((x.length : Int) = m.traits) with
  | false => simp only [notF, condT, Bool.false_and]
  | true =>
    simp only [notT, condF, Bool.true_and]
    rw [loop_any0 x (fun y => !decide (-1 ≤ y ∧ y ≤ 1000000)) (.inr false) (.inl ()) (fun i y hy => by
      have hi := get_lt hy
      simp only [lt_cast hi, condT, ixo_at hy, bindS, p_within, chk_nat (i := i) (by omega)]
      cases decide (-1 ≤ y ∧ y ≤ 1000000) <;> simp) (by simp only [not_lt_cast, condF])]
    rw [List.all_eq_not_any_not]
    cases (x.any fun y => !decide (-1 ≤ y ∧ y ≤ 1000000)) <;> simp
theorem p_great (m : Model) : P.ref06_Great m = some (great m) := by
  unfold P.ref06_Great great
  by_cases e1 : 6 < m.cards.length
  · have e1' : decide ((6 : Int) < m.cards.length) = true := decide_eq_true (by omega)
    simp only [e1', condT, bindS, gt_iff_lt, e1, decide_true, Bool.true_or]
  · have e1' : decide ((6 : Int) < m.cards.length) = false := decide_eq_false (by omega)
    simp only [e1', condF, bindS, gt_iff_lt, e1, decide_false, Bool.false_or]
    by_cases e2 : 6 < m.trees.length
    · have e2' : decide ((6 : Int) < m.trees.length) = true := decide_eq_true (by omega)
      simp only [e2', condT, e2, decide_true, Bool.true_or]
    · have e2' : decide ((6 : Int) < m.trees.length) = false := decide_eq_false (by omega)
      simp only [e2', condF, e2, decide_false, Bool.false_or]
      rw [loop_any0 m.cards greatCard (.inr true) (.inl ()) (fun i y hy => by
        have hi := get_lt hy
        simp only [lt_cast hi, condT, ixo_at hy, bindS, greatCard]
        by_cases e3 : 10 < y.scales.length
        · have e3' : decide ((10 : Int) < y.scales.length) = true := decide_eq_true (by omega)
          simp only [e3', condT, gt_iff_lt, e3, decide_true, Bool.true_or]
        · have e3' : decide ((10 : Int) < y.scales.length) = false := decide_eq_false (by omega)
          simp only [e3', condF, gt_iff_lt, e3, decide_false, Bool.false_or]
          rw [loop_any0 y.scales greatScale (.inr true) (.inl ()) (fun k z hz => by
            have hk := get_lt hz
            simp only [lt_cast hk, condT, ixo_at hz, bindS, chk_nat (i := k) (by omega), greatScale]
            have a1 : decide ((10 : Int) < z.cuts.length) = decide (z.cuts.length > 10) := by rw [Bool.eq_iff_iff]; simp only [decide_eq_true_eq]; omega
            have a2 : decide ((12 : Int) < z.points.length) = decide (z.points.length > 12) := by rw [Bool.eq_iff_iff]; simp only [decide_eq_true_eq]; omega
            rw [a1, a2]
            cases decide (z.cuts.length > 10) <;> cases decide (z.points.length > 12) <;> simp) (by simp only [not_lt_cast, condF])]
          simp only [bindS, chk_nat (i := i) (by omega)]
          cases y.scales.any greatScale <;> simp) (by simp only [not_lt_cast, condF])]
      simp only [bindS]
      cases m.cards.any greatCard with
      | true => simp
      | false =>
        simp only [condF, elimLS, Bool.false_or]
        rw [loop_any0 m.trees greatTree (.inr true) (.inl ()) (fun i y hy => by
          have hi := get_lt hy
          simp only [lt_cast hi, condT, ixo_at hy, bindS, greatTree, chk_nat (i := i) (by omega)]
          have a1 : decide ((20 : Int) < y.nodes.length) = decide (y.nodes.length > 20) := by rw [Bool.eq_iff_iff]; simp only [decide_eq_true_eq]; omega
          rw [a1]
          cases decide (y.nodes.length > 20) <;> simp) (by simp only [not_lt_cast, condF])]
        cases m.trees.any greatTree <;> simp
end S
end Go.Proofs.Ytecmlmngcnionaa
