/-
  What the score's own functions reckon: parts, cards, trees.
-/
import Derived.Test.YtecmlmngcnionaaPureScore4
namespace Go.Proofs.Ytecmlmngcnionaa
open Go Go.Sx
namespace S
theorem filter_len {l : List Int} {p : Int → Bool} {i : Nat} (hi : i ≤ l.length) (h1 : ∀ (j : Nat) (y : Int), l[j]? = some y → j < i → p y = true) (h2 : ∀ (j : Nat) (y : Int), l[j]? = some y → i ≤ j → p y = false) : (l.filter p).length = i := by
  have : l.filter p = l.take i := by
    conv => lhs; rw [← List.take_append_drop i l, List.filter_append]
    rw [List.filter_eq_self.2, List.filter_eq_nil_iff.2, List.append_nil]
    · intro y hy
      obtain ⟨j, hj⟩ := List.getElem?_of_mem hy
      rw [List.getElem?_drop] at hj
      rw [h2 (i + j) y hj (by omega)]; decide
    · intro y hy
      obtain ⟨j, hj⟩ := List.getElem?_of_mem hy
      rw [List.getElem?_take] at hj
      split at hj
      · exact h1 j y hj (by assumption)
      · cases hj
  rw [this, List.length_take]; omega
theorem rising_lt {l : List Int} (h : rising l = true) : ∀ (n j : Nat) (c d : Int), l[j]? = some c → l[j + n + 1]? = some d → c < d
  | 0, j, c, d, hc, hd => (rising_iff l).1 h j c d hc hd
  | n + 1, j, c, d, hc, hd => by
    have hl := get_lt hd
    have hm : l[j + n + 1]? = some l[j + n + 1] := List.getElem?_eq_getElem (by omega)
    have a := rising_lt h n j c _ hc hm
    have b := (rising_iff l).1 h (j + n + 1) _ d hm (by rw [show j + n + 1 + 1 = j + (n + 1) + 1 by omega]; exact hd)
    omega
theorem rising_le {l : List Int} (h : rising l = true) {j k : Nat} {c d : Int} (hjk : j ≤ k) (hc : l[j]? = some c) (hd : l[k]? = some d) : c ≤ d := by
  rcases Nat.lt_or_ge j k with h1 | h1
  · exact Int.le_of_lt (rising_lt h (k - j - 1) j c d hc (by rw [show j + (k - j - 1) + 1 = k by omega]; exact hd))
  · have : j = k := by omega
    subst this; rw [hc] at hd; cases hd; exact Int.le_refl _
theorem half {a : Int} (h : 0 ≤ a) : shrO a 1 IntKind.u64.bits = some (a / 2) := by
  unfold shrO
  rw [if_pos (by omega)]
  show some (a.fdiv 2) = _
  rw [Int.fdiv_eq_ediv_of_nonneg _ (by omega)]
theorem p_search (l : List Int) (t : Int) (hl : l.length ≤ 1000000) (hr : rising l = true) : ∃ i b, P.slices_BinarySearch_129 l t = some (i, b) ∧ 0 ≤ i ∧ i ≤ (l.length : Int) ∧ (if b = true then i + 1 else i) = ((l.filter fun c => decide (c ≤ t)).length : Int) := by
  unfold P.slices_BinarySearch_129
  obtain ⟨i, h1, h0, h2, h3, h4⟩ := loop_inv2 (body := (fun (x1, x2) => cond (decide (x1 < x2)) (Option.bind (Option.bind (chk .i64 (x1 + x2)) fun n4 => Option.bind (chk .u64 n4) fun n5 => Option.bind (shrO n5 1 IntKind.u64.bits) fun n6 => Option.bind (chk .i64 n6) fun n7 => Option.bind (ixo l n7) fun y8 => Option.bind (P.cmp_Less_102 y8 t) fun z15 => Option.bind (cond z15 (Option.bind (chk .i64 (n7 + 1)) fun n21 => some (n21, x2)) (some (x1, n7))) fun (x22, x23) => some (x22, x23)) fun (x24, x25) => some (.inl (x24, x25))) (some (.inr x1))))
    (fun s : Int × Int => 0 ≤ s.1 ∧ s.1 ≤ s.2 ∧ s.2 ≤ (l.length : Int) ∧ (∀ (k : Nat) (y : Int), l[k]? = some y → (k : Int) < s.1 → y < t) ∧ (∀ (k : Nat) (y : Int), l[k]? = some y → s.2 ≤ (k : Int) → t ≤ y)) (fun s => (s.2 - s.1).toNat)
    (Q := fun i : Int => 0 ≤ i ∧ i ≤ (l.length : Int) ∧ (∀ (k : Nat) (y : Int), l[k]? = some y → (k : Int) < i → y < t) ∧ (∀ (k : Nat) (y : Int), l[k]? = some y → i ≤ (k : Int) → t ≤ y))
    (fun ⟨i, j⟩ ⟨q1, q2, q3, q4, q5⟩ => by
      simp only at q1 q2 q3 q4 q5
      by_cases e : i < j
      · left
        have e1 := decide_eq_true e
        have hc1 : chk .i64 (i + j) = some (i + j) := chk_i64 (by omega)
        have hc2 : chk .u64 (i + j) = some (i + j) := chk_in (by show (0 : Int) ≤ i + j ∧ i + j ≤ 18446744073709551615; omega)
        have hc3 : chk .i64 ((i + j) / 2) = some ((i + j) / 2) := chk_i64 (by omega)
        have hc4 : chk .i64 ((i + j) / 2 + 1) = some ((i + j) / 2 + 1) := chk_i64 (by omega)
        have hy : l[((i + j) / 2).toNat]? = some l[((i + j) / 2).toNat] := List.getElem?_eq_getElem (by omega)
        simp only [e1, condT, hc1, hc2, hc3, hc4, half (show 0 ≤ i + j by omega), ixo_some (show 0 ≤ (i + j) / 2 by omega) hy, bindS, p_less]
        by_cases e2 : l[((i + j) / 2).toNat] < t
        · refine ⟨((i + j) / 2 + 1, j), by simp only [decide_eq_true e2, condT, bindS], ⟨by simp only; omega, by simp only; omega, q3, fun k y hk hlt => ?_, q5⟩, by simp only; omega⟩
          simp only at hlt
          have := rising_le hr (show k ≤ ((i + j) / 2).toNat by omega) hk hy
          omega
        · refine ⟨(i, (i + j) / 2), by simp only [decide_eq_false e2, condF, bindS], ⟨q1, by simp only; omega, by simp only; omega, q4, fun k y hk hlt => ?_⟩, by simp only; omega⟩
          simp only at hlt
          have := rising_le hr (show ((i + j) / 2).toNat ≤ k by omega) hy hk
          omega
      · right
        have e1 := decide_eq_false e
        exact ⟨i, by simp only [e1, condF], q1, by omega, q4, fun k y hk h => q5 k y hk (by omega)⟩) (0, (l.length : Int)) ⟨by simp only; omega, by simp only; omega, by simp only; omega, fun k y hk h => by simp only at h; omega, fun k y hk h => by simp only at h; have := get_lt hk; omega⟩
  rw [h1, bindS]
  have hrest : ∀ y, P.slices_isNaN_133 y = some false := fun y => by unfold P.slices_isNaN_133; simp
  by_cases e : i < (l.length : Int)
  · have e1 := decide_eq_true e
    have hy : l[i.toNat]? = some l[i.toNat] := List.getElem?_eq_getElem (by omega)
    have hle := h4 _ _ hy (by omega)
    simp only [e1, condT, ixo_some h0 hy, bindS, hrest, condF]
    by_cases e2 : l[i.toNat] = t
    · have e3 := decide_eq_true e2
      refine ⟨i, true, by simp only [e3, condT, bindS], h0, h2, ?_⟩
      have := filter_len (l := l) (p := fun c => decide (c ≤ t)) (i := i.toNat + 1) (by omega) (fun j y hj hlt => decide_eq_true (by
        have := rising_le hr (show j ≤ i.toNat by omega) hj hy
        omega)) (fun j y hj hge => decide_eq_false (by
        have := rising_lt hr (j - i.toNat - 1) i.toNat _ y hy (by rw [show i.toNat + (j - i.toNat - 1) + 1 = j by omega]; exact hj)
        omega))
      rw [if_pos rfl]; omega
    · have e3 := decide_eq_false e2
      refine ⟨i, false, by simp only [e3, condF, bindS], h0, h2, ?_⟩
      have := filter_len (l := l) (p := fun c => decide (c ≤ t)) (i := i.toNat) (by omega) (fun j y hj hlt => decide_eq_true (by
        have := h3 j y hj (by omega)
        omega)) (fun j y hj hge => decide_eq_false (by
        have := rising_le hr (show i.toNat ≤ j by omega) hy hj
        omega))
      rw [if_neg (by decide)]; omega
  · have e1 := decide_eq_false e
    refine ⟨i, false, by simp only [e1, condF, bindS], h0, h2, ?_⟩
    have := filter_len (l := l) (p := fun c => decide (c ≤ t)) (i := i.toNat) (by omega) (fun j y hj hlt => decide_eq_true (by
      have := h3 j y hj (by omega)
      omega)) (fun j y hj hge => by have := get_lt hj; omega)
    rw [if_neg (by decide)]; omega
theorem p_lookup {β : Type} (s : Scale) (v : Int) (hs : scaleOk s = true) (hv : v ≠ -1) (K : Int → Option β) : (Option.bind (P.slices_BinarySearch_129 s.cuts v) fun (z46, z47) => Option.bind (Option.bind (cond z47 (Option.bind (chk .i64 (z46 + 1)) fun n56 => some n56) (some z46)) fun x57 => some x57) fun x58 => Option.bind (ixo s.points x58) K) = K (onScale s v) := by
  obtain ⟨hs1, hs2, hs3, hs4, hs5, hs6⟩ := scaleOk_iff.1 hs
  obtain ⟨i, b, h1, h2, h3, h4⟩ := p_search s.cuts v (by omega) ((rising_iff _).2 hs5)
  have hlt : (s.cuts.filter fun c => decide (c ≤ v)).length < s.points.length := by
    have := List.length_filter_le (fun c => decide (c ≤ v)) s.cuts
    omega
  have hy := List.getElem?_eq_getElem hlt
  have hon : onScale s v = s.points[(s.cuts.filter fun c => decide (c ≤ v)).length] := by
    unfold onScale; rw [if_neg hv, hy]; rfl
  rw [h1, bindS, hon]
  have hc : chk .i64 (i + 1) = some (i + 1) := chk_i64 (by omega)
  cases b with
  | true =>
    simp only [if_true] at h4
    simp only [condT, hc, bindS]
    rw [h4, ixo_at hy, bindS]
  | false =>
    simp only [Bool.false_eq_true, if_false] at h4
    simp only [condF, bindS, h4, ixo_at hy]
theorem p_cardPoints (c : Card) (x : List Int) (hc : cardOk c x.length = true) (hx : x.length ≤ 5) : P.score_card_points c x = some (onCard c x) := by
  obtain ⟨hc1, hc2, hc3, hc4, hsc⟩ := cardOk_iff.1 hc
  have hpt := pt_iff.1 hc3
  unfold P.score_card_points
  have hl := loop_fold c.scales.length (fun i => c.base + ((parts c x).take i).sum) (onCard c x)
    (body := (fun (x7, x8) => cond (decide (x8 < (c.scales.length : Int))) (Option.bind (Option.bind (ixo c.scales x8) fun y10 => Option.bind (ixo x x8) fun y30 => cond (decide (y30 = (-1))) (Option.bind (chk .i64 (x7 + y10.none_)) fun n38 => some n38) (Option.bind (ixo x x8) fun y39 => Option.bind (P.slices_BinarySearch_129 y10.cuts y39) fun (z46, z47) => Option.bind (Option.bind (cond z47 (Option.bind (chk .i64 (z46 + 1)) fun n56 => some n56) (some z46)) fun x57 => some x57) fun x58 => Option.bind (ixo y10.points x58) fun y59 => Option.bind (chk .i64 (x7 + y59)) fun n66 => some n66)) fun x67 => Option.bind (chk .i64 (x8 + 1)) fun n68 => some (.inl (x67, n68))) (some (.inr x7))))
    (fun i hi => by
      have hy := List.getElem?_eq_getElem hi
      have hi' : i < x.length := by omega
      have hz := List.getElem?_eq_getElem hi'
      have hp := parts_get hy hz
      have hs := hsc i _ hy
      have hb := onScale_bd x[i] hs
      have hsum := sum_succ hp
      have hbd := sum_bd (B := 1000000) ((parts c x).take i) (fun y hy => parts_bd hsc y (List.mem_of_mem_take hy))
      have hlen : ((parts c x).take i).length ≤ 5 := by rw [List.length_take, parts_len]; omega
      simp only [lt_cast hi, condT, ixo_at hy, ixo_at hz, bindS, chk_nat (i := i) (by omega)]
      by_cases e : x[i] = -1
      · have e1 := decide_eq_true e
        have hon : onScale c.scales[i] x[i] = c.scales[i].none_ := by unfold onScale; rw [if_pos e]
        rw [hon] at hb hsum
        simp only [e1, condT]
        rw [chk_i64 (by omega)]
        simp only [bindS]
        rw [hsum, Int.add_assoc]
      · have e1 := decide_eq_false e
        simp only [e1, condF]
        rw [p_lookup _ _ hs e, chk_i64 (by omega)]
        simp only [bindS]
        rw [hsum, Int.add_assoc]) (by
      simp only [not_lt_cast, condF]
      rw [List.take_of_length_le (by rw [parts_len]; exact Nat.le_refl _)]; rfl)
  simp only [List.take_zero, List.sum_nil, Int.add_zero] at hl
  rw [hl, bindS]
theorem p_treePoints (t : Tree) (x : List Int) (hc : treeOk t x.length = true) : P.score_tree_points t x = some (onTree t x) := by
  obtain ⟨ht1, ht2, ht3, ht4, htn⟩ := treeOk_iff.1 hc
  unfold P.score_tree_points
  have key : ∀ (k : Nat) (a : Int) (n : Node), 0 ≤ a → t.nodes[a.toNat]? = some n → t.nodes.length - a.toNat ≤ k → ∃ q : Int × Int × Int × Int × Int,
      loopM (S := Int × Int × Int × Int × Int) (R := (Int × Int × Int × Int × Int)) (fun (x25, x26, x27, x28, x29) => cond (!decide (x25 = (-1))) (Option.bind (Option.bind (ixo x x25) fun y31 => Option.bind (cond (decide (y31 < x26)) (Option.bind (ixo t.nodes x27) fun y42 => some (y42.trait, y42.cut, y42.low, y42.high, y42.points)) (Option.bind (ixo t.nodes x28) fun y56 => some (y56.trait, y56.cut, y56.low, y56.high, y56.points))) fun (x70, x71, x72, x73, x74) => some (x70, x71, x72, x73, x74)) fun (x75, x76, x77, x78, x79) => some (.inl (x75, x76, x77, x78, x79))) (some (.inr (x25, x26, x27, x28, x29)))) (n.trait, n.cut, n.low, n.high, n.points) = some q ∧ q.2.2.2.2 = onTreeFrom t x k a := by
    intro k
    induction k with
    | zero => intro a n h0 hn hk; have := get_lt hn; omega
    | succ k ih =>
      intro a n h0 hn hk
      by_cases e : n.trait = -1
      · have e1 := decide_eq_true e
        refine ⟨(n.trait, n.cut, n.low, n.high, n.points), loopM_end (by simp only [e1, notT, condF]), ?_⟩
        rw [onTree_leaf hn e]
      · have e1 := decide_eq_false e
        obtain ⟨q1, q2, q3, q4, q5, q6⟩ := node_asks (htn _ _ hn) e
        have hl2 : n.trait.toNat < x.length := by omega
        have hv := List.getElem?_eq_getElem hl2
        rw [onTree_step hn e hv]
        by_cases e2 : x[n.trait.toNat] < n.cut
        · have hy : t.nodes[n.low.toNat]? = some t.nodes[n.low.toNat] := List.getElem?_eq_getElem (by omega)
          obtain ⟨q, g1, g2⟩ := ih n.low _ (by omega) hy (by omega)
          refine ⟨q, ?_, by rw [if_pos e2]; exact g2⟩
          rw [← g1]
          refine loopM_go ?_
          simp only [e1, notF, condT, ixo_some q1 hv, bindS, decide_eq_true e2, ixo_some (show 0 ≤ n.low by omega) hy]
        · have hy : t.nodes[n.high.toNat]? = some t.nodes[n.high.toNat] := List.getElem?_eq_getElem (by omega)
          obtain ⟨q, g1, g2⟩ := ih n.high _ (by omega) hy (by omega)
          refine ⟨q, ?_, by rw [if_neg e2]; exact g2⟩
          rw [← g1]
          refine loopM_go ?_
          simp only [e1, notF, condT, condF, ixo_some q1 hv, bindS, decide_eq_false e2, ixo_some (show 0 ≤ n.high by omega) hy]
  have hy : t.nodes[(0 : Int).toNat]? = some t.nodes[(0 : Int).toNat] := List.getElem?_eq_getElem (by simp; omega)
  obtain ⟨⟨q1, q2, q3, q4, q5⟩, g1, g2⟩ := key t.nodes.length 0 _ (Int.le_refl _) hy (by simp)
  rw [ixo_some (Int.le_refl _) hy, bindS, g1, bindS]
  exact congrArg some g2
theorem p_cardRight (c : Card) (traits : Int) (h : c.scales.length ≤ 10) (hs : ∀ s ∈ c.scales, s.cuts.length ≤ 10 ∧ s.points.length ≤ 12) : P.score_card_right c traits = some (pt c.base && decide ((c.scales.length : Int) = traits) && c.scales.all scaleOk) := by
  unfold P.score_card_right
  rw [p_counts _ (by simp), p_has130 c.scales _ (fun s => !scaleOk s) (fun s hm => by
    unfold P.score_card_right_in1
    rw [show (Scale.mk s.cuts s.points s.none_) = s from rfl, p_measured s (hs s hm).1 (hs s hm).2, bindS]) (by omega)]
  simp only [List.all_cons, List.all_nil, Bool.and_true, bindS]
  rw [List.all_eq_not_any_not]
  cases pt c.base <;> cases decide ((c.scales.length : Int) = traits) <;> simp [condT, condF]
theorem p_treeRight (t : Tree) (traits : Int) (h : t.nodes.length ≤ 20) (ht : 1 ≤ traits ∧ traits ≤ 5) : P.score_tree_right t traits = some (decide (1 ≤ t.nodes.length ∧ t.nodes.length ≤ 7) && t.nodes.zipIdx.all fun p => nodeOk traits t.nodes.length p.2 p.1) := by
  unfold P.score_tree_right
  rw [loop_any t.nodes (fun y i => !nodeOk traits t.nodes.length i y) (.inr false) (.inl ()) (fun i y hy => by
    have hi := get_lt hy
    have hc : chk .i64 (traits - 1) = some (traits - 1) := chk_i64 (by omega)
    have hc2 : chk .i64 ((t.nodes.length : Int) - 1) = some ((t.nodes.length : Int) - 1) := chk_i64 (by omega)
    simp only [lt_cast hi, condT, ixo_at hy, bindS, hc, hc2, chk_nat (i := i) (by omega), p_swithin 0 (traits - 1) [y.trait] (by simp), p_swithin 1 1000000 [y.cut] (by simp), p_swithin ((i : Int) + 1) ((t.nodes.length : Int) - 1) [y.low, y.high] (by simp), p_counts [y.points] (by simp), List.all_cons, List.all_nil, Bool.and_true]
    have key : (bif decide (0 ≤ y.trait ∧ y.trait ≤ traits - 1) then bif decide (1 ≤ y.cut ∧ y.cut ≤ 1000000) then
        bif (decide ((i : Int) + 1 ≤ y.low ∧ y.low ≤ (t.nodes.length : Int) - 1) && decide ((i : Int) + 1 ≤ y.high ∧ y.high ≤ (t.nodes.length : Int) - 1)) then
        bif !decide (y.low = y.high) then some (decide (y.points = 0)) else some false else some false else some false else some false) =
        some (decide (0 ≤ y.trait ∧ y.trait ≤ traits - 1 ∧ 1 ≤ y.cut ∧ y.cut ≤ 1000000 ∧ (i : Int) < y.low ∧ (i : Int) < y.high ∧ y.low < t.nodes.length ∧ y.high < t.nodes.length ∧ y.low ≠ y.high ∧ y.points = 0)) := by
      simp only [Bool.cond_eq_ite, Bool.not_eq_true', decide_eq_true_eq, decide_eq_false_iff_not, Bool.and_eq_true]
      repeat' split
      all_goals (congr 1; rw [Bool.eq_iff_iff]; simp only [Bool.false_eq_true, false_iff, decide_eq_true_eq] <;> omega)
    rw [key]
    simp only [bindS]
    have e6 : decide (Node.mk y.trait y.cut y.low y.high y.points = Node.mk (-1) 0 0 0 y.points) = decide (y.trait = -1 ∧ y.cut = 0 ∧ y.low = 0 ∧ y.high = 0) := by
      rw [Bool.eq_iff_iff, decide_eq_true_eq, decide_eq_true_eq, Node.mk.injEq]
      simp
    rw [e6]
    unfold nodeOk
    cases pt y.points <;> cases decide (y.trait = -1 ∧ y.cut = 0 ∧ y.low = 0 ∧ y.high = 0) <;> cases decide (0 ≤ y.trait ∧ y.trait ≤ traits - 1 ∧ 1 ≤ y.cut ∧ y.cut ≤ 1000000 ∧ (i : Int) < y.low ∧ (i : Int) < y.high ∧ y.low < t.nodes.length ∧ y.high < t.nodes.length ∧ y.low ≠ y.high ∧ y.points = 0) <;> simp [condT, condF, bindS]) (by simp only [not_lt_cast, condF])]
  rw [p_swithin 1 7 [(t.nodes.length : Int)] (by simp)]
  simp only [bindS, List.all_cons, List.all_nil, Bool.and_true]
  rw [List.all_eq_not_any_not]
  have e1 : decide (1 ≤ (t.nodes.length : Int) ∧ (t.nodes.length : Int) ≤ 7) = decide (1 ≤ t.nodes.length ∧ t.nodes.length ≤ 7) := by
    rw [Bool.eq_iff_iff]; simp only [decide_eq_true_eq]; omega
  rw [e1]
  cases (t.nodes.zipIdx.any fun p => !nodeOk traits t.nodes.length p.2 p.1) with
  | true => simp only [condT, elimRS]; simp
  | false => simp only [condF, elimLS]; simp
end S
end Go.Proofs.Ytecmlmngcnionaa
