/-
  What the reference of the score reckons is what the plain text of it says: points, scores, twins.
-/
import Derived.Test.YtecmlmngcnionaaPureScore2
namespace Go.Proofs.Ytecmlmngcnionaa
open Go Go.Sx
namespace S
theorem p_onScale (s : Scale) (x : Int) (hs : scaleOk s = true) : P.ref06_onScale s x = some (onScale s x) := by
  obtain ⟨hs1, hs2, hs3, hs4, hs5, hs6⟩ := scaleOk_iff.1 hs
  unfold P.ref06_onScale
  by_cases h : x = -1
  · have h' : decide (x = -1) = true := decide_eq_true h
    rw [h', condT]
    unfold onScale
    rw [if_pos h]
  · have h' : decide (x = -1) = false := decide_eq_false h
    simp only [h', condF]
    have hl := loop_fold s.cuts.length (fun i => (((s.cuts.take i).filter fun c => decide (c ≤ x)).length : Int)) (((s.cuts.take s.cuts.length).filter fun c => decide (c ≤ x)).length : Int)
      (body := fun (x8, x9) => cond (decide (x9 < (s.cuts.length : Int))) (Option.bind (Option.bind (ixo s.cuts x9) fun y11 => Option.bind (cond (decide (y11 ≤ x)) (Option.bind (chk .i64 (x8 + 1)) fun n19 => some n19) (some x8)) fun x20 => some x20) fun x21 => Option.bind (chk .i64 (x9 + 1)) fun n22 => some (.inl (x21, n22))) (some (.inr x8)))
      (fun i hi => by
        have hy := List.getElem?_eq_getElem hi
        have hc := cnt_le (l := s.cuts) (p := fun c => decide (c ≤ x)) (i := i)
        simp only [lt_cast hi, condT, ixo_at hy, bindS, chk_nat (i := i) (by omega)]
        by_cases e : s.cuts[i] ≤ x
        · have e' : decide (s.cuts[i] ≤ x) = true := decide_eq_true e
          have := cntT (l := s.cuts) (i := i) (p := fun c => decide (c ≤ x)) hy e'
          rw [e', this]
          simp only [condT, chk_nat (i := ((s.cuts.take i).filter fun c => decide (c ≤ x)).length) (by omega), bindS]
          simp
        · have e' : decide (s.cuts[i] ≤ x) = false := decide_eq_false e
          have := cntF (l := s.cuts) (i := i) (p := fun c => decide (c ≤ x)) hy e'
          rw [e', this]
          simp only [condF, bindS]) (by simp only [not_lt_cast, condF])
    simp only [List.take_zero, List.filter_nil, List.length_nil, Int.natCast_zero] at hl
    rw [hl]
    simp only [bindS, List.take_length]
    have hlt : (s.cuts.filter fun c => decide (c ≤ x)).length < s.points.length := by
      have := List.length_filter_le (fun c => decide (c ≤ x)) s.cuts
      omega
    have hy := List.getElem?_eq_getElem hlt
    simp only [ixo_at hy, bindS, onScale, h, if_false, hy, Option.getD_some]
theorem p_onCard (c : Card) (x : List Int) (hc : cardOk c x.length = true) (hx : x.length ≤ 5) : P.ref06_onCard c x = some (onCard c x) := by
  obtain ⟨hc1, hc2, hc3, hc4, hsc⟩ := cardOk_iff.1 hc
  have hpt := pt_iff.1 hc3
  unfold P.ref06_onCard
  have hl := loop_fold c.scales.length (fun i => c.base + ((parts c x).take i).sum) (onCard c x)
    (body := fun (x7, x8) => cond (decide (x8 < (c.scales.length : Int))) (Option.bind (ixo c.scales x8) fun y10 => Option.bind (ixo x x8) fun y21 => Option.bind (P.ref06_onScale y10 y21) fun z28 => Option.bind (chk .i64 (x7 + z28)) fun n33 => Option.bind (chk .i64 (x8 + 1)) fun n37 => some (.inl (n33, n37))) (some (.inr x7)))
    (fun i hi => by
      have hy := List.getElem?_eq_getElem hi
      have hi' : i < x.length := by omega
      have hz := List.getElem?_eq_getElem hi'
      have hp := parts_get hy hz
      have hs := hsc i _ hy
      have hb := onScale_bd x[i] hs
      have hsum := sum_succ hp
      have hbd := sum_bd (B := 1000000) ((parts c x).take i) (fun y hy => parts_bd hsc y (List.mem_of_mem_take hy))
      have hlen : ((parts c x).take i).length ≤ 5 := by rw [List.length_take, parts_len]; omega
      simp only [lt_cast hi, condT, ixo_at hy, ixo_at hz, bindS, p_onScale _ _ hs, chk_nat (i := i) (by omega)]
      rw [chk_i64 (by omega)]
      simp only [bindS]
      rw [hsum, Int.add_assoc]) (by
      simp only [not_lt_cast, condF]
      rw [List.take_of_length_le (by rw [parts_len]; exact Nat.le_refl _)]; rfl)
  simp only [List.take_zero, List.sum_nil, Int.add_zero] at hl
  rw [hl, bindS]
theorem p_onTree (t : Tree) (x : List Int) (hc : treeOk t x.length = true) : P.ref06_onTree t x = some (onTree t x) := by
  obtain ⟨ht1, ht2, ht3, ht4, htn⟩ := treeOk_iff.1 hc
  unfold P.ref06_onTree
  obtain ⟨r, h1, n, h2, h3, h4⟩ := loopM_inv (body := fun x7 => Option.bind (ixo t.nodes x7) fun y8 => cond (!decide (y8.trait = (-1))) (Option.bind (Option.bind (ixo t.nodes x7) fun y20 => Option.bind (ixo x y20.trait) fun y40 => Option.bind (cond (decide (y40 < y20.cut)) (some y20.low) (some y20.high)) fun x51 => some x51) fun x52 => some (.inl x52)) (some (.inr x7)))
    (fun a : Int => (0 ≤ a ∧ a < t.nodes.length) ∧ ∃ k, t.nodes.length - a.toNat ≤ k ∧ onTreeFrom t x k a = onTree t x) (fun a => t.nodes.length - a.toNat) (Q := fun r : Int => ∃ n, t.nodes[r.toNat]? = some n ∧ 0 ≤ r ∧ n.points = onTree t x)
    (fun a ⟨ha, k, hk, hat⟩ => by
      have hl : a.toNat < t.nodes.length := by omega
      have hy := List.getElem?_eq_getElem hl
      have hx := ixo_some ha.1 hy
      obtain ⟨k, rfl⟩ : ∃ j, k = j + 1 := ⟨k - 1, by omega⟩
      simp only [hx, bindS]
      by_cases e : t.nodes[a.toNat].trait = -1
      · have e' : decide (t.nodes[a.toNat].trait = -1) = true := decide_eq_true e
        rw [e']
        refine ⟨.inr a, by simp only [notT, condF], (fun s hs => by cases hs), fun r hr => ?_⟩
        cases hr
        exact ⟨_, hy, ha.1, by rw [onTree_leaf hy e] at hat; exact hat⟩
      · have e' : decide (t.nodes[a.toNat].trait = -1) = false := decide_eq_false e
        rw [e']
        obtain ⟨q1, q2, q3, q4, q5, q6⟩ := node_asks (htn _ _ hy) e
        have hl2 : t.nodes[a.toNat].trait.toNat < x.length := by omega
        have hv := List.getElem?_eq_getElem hl2
        simp only [notF, condT, ixo_some q1 hv, bindS]
        rw [onTree_step hy e hv] at hat
        by_cases e2 : x[t.nodes[a.toNat].trait.toNat] < t.nodes[a.toNat].cut
        · have e3 := decide_eq_true e2
          rw [if_pos e2] at hat
          refine ⟨.inl t.nodes[a.toNat].low, by simp only [e3, condT, bindS], fun s hs => ?_, (fun r hr => by cases hr)⟩
          cases hs
          exact ⟨⟨by omega, k, by omega, hat⟩, by omega⟩
        · have e3 := decide_eq_false e2
          rw [if_neg e2] at hat
          refine ⟨.inl t.nodes[a.toNat].high, by simp only [e3, condF, bindS], fun s hs => ?_, (fun r hr => by cases hr)⟩
          cases hs
          exact ⟨⟨by omega, k, by omega, hat⟩, by omega⟩) 0 ⟨⟨by omega, by omega⟩, _, Nat.le_refl _, rfl⟩
  rw [h1, bindS, ixo_some h3 h2, bindS, h4]
theorem p_all (m : Model) (x : List Int) (hm : modelOk m = true) (hx : valuesOk m x = true) : P.ref06_all m x = some (all m x) := by
  obtain ⟨hm1, hm2, hm3, hm4, hm5, hm6, hm7⟩ := modelOk_iff.1 hm
  obtain ⟨hv1, hv2⟩ := valuesOk_iff.1 hx
  have hvl : x.length ≤ 5 := by omega
  unfold P.ref06_all
  have hl := loop_fold m.cards.length (fun i => (m.cards.take i).map (onCard · x)) (m.cards.map (onCard · x))
    (body := fun (x7, x8) => cond (decide (x8 < (m.cards.length : Int))) (Option.bind (ixo m.cards x8) fun y10 => Option.bind (P.ref06_onCard y10 x) fun z20 => Option.bind (appo 8 x7 ([z20] : List Int)) fun l32 => Option.bind (chk .i64 (x8 + 1)) fun n37 => some (.inl (l32, n37))) (some (.inr x7)))
    (fun i hi => by
      have hy := List.getElem?_eq_getElem hi
      have h6 := hm6 i _ hy
      rw [← hv1] at h6
      simp only [lt_cast hi, condT, ixo_at hy, bindS, p_onCard _ _ h6 hvl, chk_nat (i := i) (by omega)]
      rw [appo_ok (by simp; omega) (by simp; omega)]
      simp only [bindS]
      rw [map_succ hy]) (by simp only [not_lt_cast, condF, List.take_length])
  simp only [List.take_zero, List.map_nil] at hl
  rw [hl, bindS]
  have hl2 := loop_fold m.trees.length (fun i => m.cards.map (onCard · x) ++ (m.trees.take i).map (onTree · x)) (all m x)
    (body := fun (x39, x40) => cond (decide (x40 < (m.trees.length : Int))) (Option.bind (ixo m.trees x40) fun y42 => Option.bind (P.ref06_onTree y42 x) fun z51 => Option.bind (appo 8 x39 ([z51] : List Int)) fun l63 => Option.bind (chk .i64 (x40 + 1)) fun n68 => some (.inl (l63, n68))) (some (.inr x39)))
    (fun i hi => by
      have hy := List.getElem?_eq_getElem hi
      have h7 := hm7 i _ hy
      rw [← hv1] at h7
      simp only [lt_cast hi, condT, ixo_at hy, bindS, p_onTree _ _ h7, chk_nat (i := i) (by omega)]
      rw [appo_ok (by simp; omega) (by simp; omega)]
      simp only [bindS]
      rw [map_succ hy, List.append_assoc]) (by simp only [not_lt_cast, condF, List.take_length]; rfl)
  simp only [List.take_zero, List.map_nil, List.append_nil] at hl2
  rw [hl2, bindS]
theorem p_score (m : Model) (x : List Int) (hm : modelOk m = true) (hx : valuesOk m x = true) : P.ref06_score m x = some (score m x) := by
  obtain ⟨hm1, hm2, hm3, hm4, hm5, hm6, hm7⟩ := modelOk_iff.1 hm
  unfold P.ref06_score
  rw [show (Model.mk m.traits m.cards m.trees m.need) = m from rfl, p_all m x hm hx, bindS]
  have hal := all_len (m := m) (x := x)
  have habd := all_bd (x := x) hm
  have hbd : ∀ i : Nat, i ≤ 4 → -6000000000 * (i : Int) ≤ scoreTo m x i ∧ scoreTo m x i ≤ 6000000000 * (i : Int) := by
    intro i
    induction i with
    | zero => intro _; simp [scoreTo]
    | succ i ih =>
      intro hi
      have ih := ih (by omega)
      rcases Nat.lt_or_ge i (all m x).length with h | h
      · have hy := List.getElem?_eq_getElem h
        rw [scoreTo_succ hy]
        have hb := habd _ _ hy
        rcases Nat.lt_or_ge i m.cards.length with h2 | h2
        · have hc := List.getElem?_eq_getElem h2
          have hk := cardOk_iff.1 (hm6 _ _ hc)
          rw [weightAt_card hc]
          have := mul_bd hk.1 hk.2.1 hb
          omega
        · have h3 : i - m.cards.length < m.trees.length := by omega
          have hc := List.getElem?_eq_getElem h3
          have hk := treeOk_iff.1 (hm7 _ _ hc)
          rw [weightAt_tree (by omega) hc]
          have := mul_bd hk.1 hk.2.1 hb
          omega
      · have : scoreTo m x (i + 1) = scoreTo m x i := by
          unfold scoreTo
          rw [List.take_of_length_le (by simp; omega), List.take_of_length_le (by simp; omega)]
        rw [this]; omega
  have hl := loop_fold (all m x).length (scoreTo m x) (score m x)
    (body := fun (x14, x15) => cond (decide (x15 < ((all m x).length : Int))) (Option.bind (Option.bind (cond (decide (x15 < (m.cards.length : Int))) (Option.bind (ixo m.cards x15) fun y18 => Option.bind (ixo (all m x) x15) fun y28 => Option.bind (chk .i64 (y18.weight * y28)) fun n35 => Option.bind (chk .i64 (x14 + n35)) fun n36 => some n36) (Option.bind (chk .i64 (x15 - (m.cards.length : Int))) fun n40 => Option.bind (ixo m.trees n40) fun y41 => Option.bind (ixo (all m x) x15) fun y50 => Option.bind (chk .i64 (y41.weight * y50)) fun n57 => Option.bind (chk .i64 (x14 + n57)) fun n58 => some n58)) fun x62 => some x62) fun x63 => Option.bind (chk .i64 (x15 + 1)) fun n64 => some (.inl (x63, n64))) (some (.inr x14)))
    (fun i hi => by
      have hy := List.getElem?_eq_getElem hi
      have hb := habd _ _ hy
      have hs := hbd i (by omega)
      rw [scoreTo_succ hy]
      simp only [lt_cast hi, condT, ixo_at hy, bindS, chk_nat (i := i) (by omega)]
      rcases Nat.lt_or_ge i m.cards.length with h2 | h2
      · have hc := List.getElem?_eq_getElem h2
        have hk := cardOk_iff.1 (hm6 _ _ hc)
        rw [weightAt_card hc]
        have := mul_bd hk.1 hk.2.1 hb
        simp only [lt_cast h2, condT, ixo_at hc, bindS]
        rw [chk_i64 (by omega), bindS, chk_i64 (by omega)]
        simp only [bindS]
      · have h3 : i - m.cards.length < m.trees.length := by omega
        have hc := List.getElem?_eq_getElem h3
        have hk := treeOk_iff.1 (hm7 _ _ hc)
        rw [weightAt_tree (by omega) hc]
        have := mul_bd hk.1 hk.2.1 hb
        have e1 : decide ((i : Int) < (m.cards.length : Int)) = false := decide_eq_false (by omega)
        have e2 : chk .i64 ((i : Int) - (m.cards.length : Int)) = some ((i - m.cards.length : Nat) : Int) := by rw [chk_i64 (by omega)]; congr 1; omega
        simp only [e1, condF, e2, bindS, ixo_at hc]
        rw [chk_i64 (by omega), bindS, chk_i64 (by omega)]
        simp only [bindS]) (by simp only [not_lt_cast, condF]; rw [score_eq])
  rw [show scoreTo m x 0 = 0 from by simp [scoreTo]] at hl
  rw [hl, bindS]
/-- What is neither great nor long. -/
structure Small (m : Model) : Prop where
  cards : m.cards.length ≤ 6
  trees : m.trees.length ≤ 6
  scales : ∀ c ∈ m.cards, c.scales.length ≤ 10
  cuts : ∀ c ∈ m.cards, ∀ s ∈ c.scales, s.cuts.length ≤ 10 ∧ s.points.length ≤ 12
  nodes : ∀ t ∈ m.trees, t.nodes.length ≤ 20
theorem small_of {m : Model} (h : great m = false) : Small m := by
  obtain ⟨h1, h2, h3, h4⟩ := great_iff.1 h
  refine ⟨h1, h2, fun c hc => ?_, fun c hc s hs => ?_, fun t ht => ?_⟩
  · obtain ⟨j, hj⟩ := List.getElem?_of_mem hc; exact (greatCard_iff.1 (h3 j c hj)).1
  · obtain ⟨j, hj⟩ := List.getElem?_of_mem hc
    obtain ⟨k, hk⟩ := List.getElem?_of_mem hs
    have := (greatCard_iff.1 (h3 j c hj)).2 k s hk
    simp only [greatScale, Bool.or_eq_false_iff, decide_eq_false_iff_not] at this
    omega
  · obtain ⟨j, hj⟩ := List.getElem?_of_mem ht
    have := h4 j t hj
    simp only [greatTree, decide_eq_false_iff_not] at this
    omega
theorem p_Score (m : Model) (x : List Int) (hs : Small m) (hx : x.length ≤ 10) : P.ref06_Score m x = some (if modelOk m && valuesOk m x then score m x else 0, modelOk m && valuesOk m x && decide (1000 * m.need ≤ score m x), err m x) := by
  unfold P.ref06_Score
  rw [show (Model.mk m.traits m.cards m.trees m.need) = m from rfl, p_check m hs.cards hs.trees hs.scales hs.nodes, bindS, p_values m x (by omega), bindS]
  unfold check err
  cases h1 : modelOk m with
  | false => simp [condT, notF]
  | true =>
    simp only [if_true, decide_true, notT, condF, Bool.true_and]
    cases h2 : valuesOk m x with
    | false => simp [condT, notF]
    | true =>
      have hnd := pt_iff.1 (modelOk_iff.1 h1).2.2.1
      simp only [notT, condF, if_true, Bool.true_and, p_score m x h1 h2, bindS]
      rw [chk_i64 (by omega), bindS]
theorem p_Points (m : Model) (x : List Int) (hs : Small m) (hx : x.length ≤ 10) : P.ref06_Points m x = some (if modelOk m && valuesOk m x then all m x else [], err m x) := by
  unfold P.ref06_Points
  rw [show (Model.mk m.traits m.cards m.trees m.need) = m from rfl, p_check m hs.cards hs.trees hs.scales hs.nodes, bindS, p_values m x (by omega), bindS]
  unfold check err
  cases h1 : modelOk m with
  | false => simp [condT, notF]
  | true =>
    simp only [if_true, decide_true, notT, condF, Bool.true_and]
    cases h2 : valuesOk m x with
    | false => simp [condT, notF]
    | true => simp only [notT, condF, if_true, p_all m x h1 h2, bindS]
end S
end Go.Proofs.Ytecmlmngcnionaa
