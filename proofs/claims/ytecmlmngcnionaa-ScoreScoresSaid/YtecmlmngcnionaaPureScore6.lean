/-
  What the score's own functions reckon: models; and the law.
-/
import Derived.Test.YtecmlmngcnionaaPureScore5
namespace Go.Proofs.Ytecmlmngcnionaa
open Go Go.Sx
namespace S
def partsOf (m : Model) : List I87 := m.cards.map I87.c105 ++ m.trees.map I87.c106
def worksOf (m : Model) : Works := if modelOk m then Works.mk m (partsOf m) else Works.mk (Model.mk 0 [] [] 0) []
def badPart (traits : Int) : I87 → Bool
  | .c105 c => !cardOk c traits
  | .c106 t => !treeOk t traits
theorem partsOf_len (m : Model) : (partsOf m).length = m.cards.length + m.trees.length := by simp [partsOf]
theorem p_part (m : Model) (hs : Small m) (ht : 1 ≤ m.traits ∧ m.traits ≤ 5) (p : I87) (hp : p ∈ partsOf m) : P.score_open_in1 p m = some (badPart m.traits p) := by
  unfold P.score_open_in1
  rcases List.mem_append.1 hp with h | h
  · obtain ⟨c, hc, rfl⟩ := List.mem_map.1 h
    unfold P.M87_weight P.M87_right P.score_card_weight
    simp only [bindS, p_swithin 0 1000 [c.weight] (by simp), p_cardRight c m.traits (hs.scales c hc) (hs.cuts c hc), List.all_cons, List.all_nil, Bool.and_true]
    show _ = some (!cardOk c m.traits)
    unfold cardOk
    cases decide (0 ≤ c.weight ∧ c.weight ≤ 1000) with
    | false => simp only [notF, condT, bindS, Bool.false_and]
    | true => simp only [notT, condF, bindS, Bool.true_and]
  · obtain ⟨c, hc, rfl⟩ := List.mem_map.1 h
    unfold P.M87_weight P.M87_right P.score_tree_weight
    simp only [bindS, p_swithin 0 1000 [c.weight] (by simp), p_treeRight c m.traits (hs.nodes c hc) ht, List.all_cons, List.all_nil, Bool.and_true]
    show _ = some (!treeOk c m.traits)
    unfold treeOk
    cases decide (0 ≤ c.weight ∧ c.weight ≤ 1000) with
    | false => simp only [notF, condT, bindS, Bool.false_and]
    | true => simp only [notT, condF, bindS, Bool.true_and]
theorem any_parts (m : Model) : (partsOf m).any (badPart m.traits) = !(m.cards.all (cardOk · m.traits) && m.trees.all (treeOk · m.traits)) := by
  unfold partsOf
  rw [List.any_append, List.any_map, List.any_map, Bool.not_and, List.all_eq_not_any_not, List.all_eq_not_any_not, Bool.not_not, Bool.not_not]
  rfl
theorem p_open (m : Model) (hs : Small m) : P.score_open m = some (worksOf m, check m) := by
  have hc6 := hs.cards
  have ht6 := hs.trees
  unfold P.score_open
  have hl := loop_fold' m.cards.length (fun i => (m.cards.take i).map I87.c105) (m.cards.map I87.c105)
    (body := (fun (x18, x19) => cond (decide (x18 < (m.cards.length : Int))) (Option.bind (ixo m.cards x18) fun y21 => Option.bind (appo 16 x19 ([(I87.c105 (Card.mk y21.weight y21.base y21.scales))] : List I87)) fun l46 => Option.bind (chk .i64 (x18 + 1)) fun n54 => some (.inl (n54, l46))) (some (.inr x19))))
    (fun i hi => by
      have hy := List.getElem?_eq_getElem hi
      simp only [lt_cast hi, condT, ixo_at hy, bindS, chk_nat (i := i) (by omega)]
      rw [appo_ok (by simp; omega) (by simp; omega)]
      simp only [bindS]
      rw [map_succ hy]) (by simp only [not_lt_cast, condF, List.take_length])
  simp only [List.take_zero, List.map_nil] at hl
  rw [hl, bindS]
  have hl2 := loop_fold' m.trees.length (fun i => m.cards.map I87.c105 ++ (m.trees.take i).map I87.c106) (partsOf m)
    (body := (fun (x56, x57) => cond (decide (x56 < (m.trees.length : Int))) (Option.bind (ixo m.trees x56) fun y59 => Option.bind (appo 16 x57 ([(I87.c106 (Tree.mk y59.weight y59.nodes))] : List I87)) fun l83 => Option.bind (chk .i64 (x56 + 1)) fun n91 => some (.inl (n91, l83))) (some (.inr x57))))
    (fun i hi => by
      have hy := List.getElem?_eq_getElem hi
      simp only [lt_cast hi, condT, ixo_at hy, bindS, chk_nat (i := i) (by omega)]
      rw [appo_ok (by simp; omega) (by simp; omega)]
      simp only [bindS]
      rw [map_succ hy, List.append_assoc]) (by simp only [not_lt_cast, condF, List.take_length]; rfl)
  simp only [List.take_zero, List.map_nil, List.append_nil] at hl2
  rw [hl2, bindS, show (Model.mk m.traits m.cards m.trees m.need) = m from rfl, p_swithin 1 5 [m.traits] (by simp), p_counts [m.need] (by simp)]
  simp only [bindS, List.all_cons, List.all_nil, Bool.and_true]
  have hw : worksOf m = if modelOk m then Works.mk m (partsOf m) else Works.mk (Model.mk 0 [] [] 0) [] := rfl
  rw [hw]
  unfold check modelOk
  cases e1 : decide (1 ≤ m.traits ∧ m.traits ≤ 5) with
  | false => simp only [notF, condT, bindS, Bool.false_and, Bool.false_eq_true, if_false]
  | true =>
    have e1 := of_decide_eq_true e1
    simp only [notT, condF, Bool.true_and]
    cases e2 : pt m.need with
    | false => simp only [notF, condT, bindS, Bool.false_and, Bool.false_eq_true, if_false]
    | true =>
      simp only [notT, condF, Bool.true_and]
      by_cases e3 : m.cards.length ≤ 2
      · have e3' : decide ((2 : Int) < m.cards.length) = false := decide_eq_false (by omega)
        simp only [e3, e3', decide_true, condF, Bool.true_and]
        by_cases e4 : m.trees.length ≤ 2
        · have e4' : decide ((2 : Int) < m.trees.length) = false := decide_eq_false (by omega)
          simp only [e4, e4', decide_true, condF, bindS, Bool.true_and]
          rw [p_has54 (partsOf m) _ (badPart m.traits) (fun p hp => p_part m hs e1 p hp) (by rw [partsOf_len]; omega), any_parts]
          cases (m.cards.all (cardOk · m.traits) && m.trees.all (treeOk · m.traits)) with
          | true => simp only [bindS, notT, condF, if_true]
          | false => simp only [bindS, notF, condT, Bool.false_eq_true, if_false]
        · have e4' : decide ((2 : Int) < m.trees.length) = true := decide_eq_true (by omega)
          simp only [e4, e4', decide_false, condT, bindS, Bool.false_and, Bool.false_eq_true, if_false]
      · have e3' : decide ((2 : Int) < m.cards.length) = true := decide_eq_true (by omega)
        simp only [e3, e3', decide_false, condT, bindS, Bool.false_and, Bool.false_eq_true, if_false]
theorem p_Check (m : Model) (hs : Small m) : P.score_Check m = some (check m) := by
  unfold P.score_Check
  rw [show (Model.mk m.traits m.cards m.trees m.need) = m from rfl, p_open m hs, bindS]
theorem p_asked (m : Model) (x : List Int) (hs : Small m) (hx : x.length ≤ 10) : P.score_asked m x = some (worksOf m, err m x) := by
  unfold P.score_asked
  rw [show (Model.mk m.traits m.cards m.trees m.need) = m from rfl, p_open m hs, bindS, p_swithin (-1) 1000000 x (by omega)]
  unfold check err valuesOk
  cases h1 : modelOk m with
  | false =>
    have : decide ((60 : Int) = 0) = false := by decide
    simp only [Bool.false_eq_true, if_false, this, condF, bindS]
  | true =>
    simp only [if_true, decide_true, condT, bindS]
    cases h2 : decide ((x.length : Int) = m.traits) with
    | false => simp only [notF, condT, bindS, Bool.false_and, Bool.false_eq_true, if_false]
    | true =>
      simp only [notT, condF, Bool.true_and]
      cases (x.all fun v => decide (-1 ≤ v ∧ v ≤ 1000000)) with
      | false => simp only [bindS, notF, condT, Bool.false_eq_true, if_false]
      | true => simp only [bindS, notT, condF, if_true]
theorem parts_at (m : Model) (x : List Int) (hm : modelOk m = true) (hx : valuesOk m x = true) {i : Nat} {y : Int} (hy : (all m x)[i]? = some y) : ∃ p, (partsOf m)[i]? = some p ∧ P.M87_weight p = some (weightAt m i) ∧ P.M87_points p x = some y := by
  obtain ⟨hm1, hm2, hm3, hm4, hm5, hm6, hm7⟩ := modelOk_iff.1 hm
  obtain ⟨hv1, hv2⟩ := valuesOk_iff.1 hx
  have hi := get_lt hy
  rw [all_len] at hi
  unfold all at hy
  unfold partsOf
  rcases Nat.lt_or_ge i m.cards.length with h | h
  · have hc := List.getElem?_eq_getElem h
    refine ⟨.c105 m.cards[i], ?_, ?_, ?_⟩
    · rw [List.getElem?_append_left (by simpa using h), List.getElem?_map, hc]; rfl
    · rw [weightAt_card hc]; rfl
    · rw [List.getElem?_append_left (by simpa using h), List.getElem?_map, hc] at hy
      simp only [Option.map_some, Option.some.injEq] at hy
      show P.score_card_points _ _ = _
      rw [p_cardPoints _ _ (by rw [hv1]; exact hm6 _ _ hc) (by omega), hy]
  · have h3 : i - m.cards.length < m.trees.length := by omega
    have hc := List.getElem?_eq_getElem h3
    refine ⟨.c106 m.trees[i - m.cards.length], ?_, ?_, ?_⟩
    · rw [List.getElem?_append_right (by simpa using h), List.getElem?_map, List.length_map, hc]; rfl
    · rw [weightAt_tree (by omega) hc]; rfl
    · rw [List.getElem?_append_right (by simpa using h), List.getElem?_map, List.length_map, hc] at hy
      simp only [Option.map_some, Option.some.injEq] at hy
      show P.score_tree_points _ _ = _
      rw [p_treePoints _ _ (by rw [hv1]; exact hm7 _ _ hc), hy]
theorem weightAt_bd (m : Model) (hm : modelOk m = true) {i : Nat} (hi : i < m.cards.length + m.trees.length) : 0 ≤ weightAt m i ∧ weightAt m i ≤ 1000 := by
  obtain ⟨hm1, hm2, hm3, hm4, hm5, hm6, hm7⟩ := modelOk_iff.1 hm
  rcases Nat.lt_or_ge i m.cards.length with h2 | h2
  · have hc := List.getElem?_eq_getElem h2
    have hk := cardOk_iff.1 (hm6 _ _ hc)
    rw [weightAt_card hc]; exact ⟨hk.1, hk.2.1⟩
  · have h3 : i - m.cards.length < m.trees.length := by omega
    have hc := List.getElem?_eq_getElem h3
    have hk := treeOk_iff.1 (hm7 _ _ hc)
    rw [weightAt_tree (by omega) hc]; exact ⟨hk.1, hk.2.1⟩
theorem scoreTo_bd (m : Model) (x : List Int) (hm : modelOk m = true) : ∀ i : Nat, i ≤ (all m x).length → -6000000000 * (i : Int) ≤ scoreTo m x i ∧ scoreTo m x i ≤ 6000000000 * (i : Int)
  | 0, _ => by simp [scoreTo]
  | i + 1, hi => by
    have ih := scoreTo_bd m x hm i (by omega)
    have hy := List.getElem?_eq_getElem (show i < (all m x).length by omega)
    rw [scoreTo_succ hy]
    have hb := all_bd (x := x) hm _ _ hy
    have hw := weightAt_bd m hm (i := i) (by rw [← all_len (x := x)]; omega)
    have := mul_bd hw.1 hw.2 hb
    omega
theorem p_worksScore (m : Model) (x : List Int) (hm : modelOk m = true) (hx : valuesOk m x = true) : P.score_works_score (Works.mk m (partsOf m)) x = some (score m x) := by
  obtain ⟨hm1, hm2, hm3, hm4, hm5, hm6, hm7⟩ := modelOk_iff.1 hm
  unfold P.score_works_score
  have hal := all_len (m := m) (x := x)
  have hpl := partsOf_len m
  have hl := loop_fold (all m x).length (scoreTo m x) (score m x)
    (body := (fun (x7, x8) => cond (decide (x8 < ((partsOf m).length : Int))) (Option.bind (ixo (partsOf m) x8) fun y10 => Option.bind (P.M87_weight y10) fun z18 => Option.bind (P.M87_points y10 x) fun z23 => Option.bind (chk .i64 (z18 * z23)) fun n28 => Option.bind (chk .i64 (x7 + n28)) fun n29 => Option.bind (chk .i64 (x8 + 1)) fun n30 => some (.inl (n29, n30))) (some (.inr x7))))
    (fun i hi => by
      have hy := List.getElem?_eq_getElem hi
      obtain ⟨p, g1, g2, g3⟩ := parts_at m x hm hx hy
      have hb := all_bd (x := x) hm _ _ hy
      have hw := weightAt_bd m hm (i := i) (by omega)
      have hs := scoreTo_bd m x hm i (by omega)
      have := mul_bd hw.1 hw.2 hb
      rw [scoreTo_succ hy]
      simp only [lt_cast (get_lt g1), condT, ixo_at g1, bindS, g2, g3, chk_nat (i := i) (by omega)]
      rw [chk_i64 (by omega), bindS, chk_i64 (by omega)]
      simp only [bindS]) (by rw [hal, ← hpl]; simp only [not_lt_cast, condF]; rw [hpl, ← hal, score_eq])
  rw [show scoreTo m x 0 = 0 from by simp [scoreTo]] at hl
  rw [hl, bindS]
theorem p_SScore (m : Model) (x : List Int) (hs : Small m) (hx : x.length ≤ 10) : P.score_Score m x = some (if modelOk m && valuesOk m x then score m x else 0, modelOk m && valuesOk m x && decide (1000 * m.need ≤ score m x), err m x) := by
  unfold P.score_Score
  rw [show (Model.mk m.traits m.cards m.trees m.need) = m from rfl, p_asked m x hs hx, bindS]
  unfold err worksOf
  cases h1 : modelOk m with
  | false => simp [condT, notF]
  | true =>
    simp only [if_true, Bool.true_and]
    cases h2 : valuesOk m x with
    | false => simp [condT, notF]
    | true =>
      have hnd := pt_iff.1 (modelOk_iff.1 h1).2.2.1
      simp only [decide_true, notT, condF, if_true, Bool.true_and, p_worksScore m x h1 h2, bindS]
      unfold P.score_works_enough
      rw [chk_i64 (by simp only; omega)]
      simp only [bindS]
      rw [Int.mul_comm]
theorem p_SPoints (m : Model) (x : List Int) (hs : Small m) (hx : x.length ≤ 10) : P.score_Points m x = some (if modelOk m && valuesOk m x then all m x else [], err m x) := by
  unfold P.score_Points
  rw [show (Model.mk m.traits m.cards m.trees m.need) = m from rfl, p_asked m x hs hx, bindS]
  unfold err worksOf
  cases h1 : modelOk m with
  | false => simp [condT, notF]
  | true =>
    simp only [if_true, Bool.true_and]
    cases h2 : valuesOk m x with
    | false => simp [condT, notF]
    | true =>
      obtain ⟨hm1, hm2, hm3, hm4, hm5, hm6, hm7⟩ := modelOk_iff.1 h1
      simp only [decide_true, notT, condF, if_true]
      have hal := all_len (m := m) (x := x)
      have hpl := partsOf_len m
      have hl := loop_fold (all m x).length (fun i => (all m x).take i) (all m x)
        (body := (fun (x32, x33) => cond (decide (x33 < ((partsOf m).length : Int))) (Option.bind (ixo (partsOf m) x33) fun y35 => Option.bind (P.M87_points y35 x) fun z43 => Option.bind (appo 8 x32 ([z43] : List Int)) fun l54 => Option.bind (chk .i64 (x33 + 1)) fun n59 => some (.inl (l54, n59))) (some (.inr x32))))
        (fun i hi => by
          have hy := List.getElem?_eq_getElem hi
          obtain ⟨p, g1, g2, g3⟩ := parts_at m x h1 h2 hy
          simp only [lt_cast (get_lt g1), condT, ixo_at g1, bindS, g3, chk_nat (i := i) (by omega)]
          rw [appo_ok (by simp; omega) (by simp; omega)]
          simp only [bindS]
          rw [List.take_add_one, hy]; rfl) (by rw [hal, ← hpl]; simp only [not_lt_cast, condF]; rw [hpl, ← hal, List.take_length])
      rw [List.take_zero] at hl
      rw [hl, bindS]
theorem seto_same {α : Type} {l : List α} {i : Nat} {y : α} (h : l[i]? = some y) : seto l (i : Int) y = some l := by
  have hi := get_lt h
  unfold seto
  rw [if_pos ⟨by omega, by omega⟩, Int.toNat_natCast]
  congr 1
  rw [List.getElem?_eq_getElem hi] at h
  cases h
  simp
theorem set_same {α : Type} {l : List α} {i : Nat} {y : α} (h : l[i]? = some y) : l.set (i : Int).toNat y = l := by
  have h2 := seto_same h
  unfold seto at h2
  have hi := get_lt h
  rw [if_pos ⟨by omega, by omega⟩] at h2
  exact Option.some.inj h2
theorem loop_still {A R : Type} {body : Int × A → Option (Int × A ⊕ R)} (n : Nat) (a : A) (r : R)
    (hb : ∀ i < n, body ((i : Int), a) = some (.inl ((i : Int) + 1, a))) (he : body ((n : Int), a) = some (.inr r)) : loopM body (0, a) = some r :=
  loop_fold' n (fun _ => a) r hb he
theorem p_Twin (m : Model) (hs : Small m) : P.ref06_Twin m = some m := by
  have hc6 := hs.cards
  have ht6 := hs.trees
  unfold P.ref06_Twin
  rw [appo_ok (by simp; omega) (by simp; omega), bindS, List.nil_append, appo_ok (by simp; omega) (by simp; omega), List.nil_append]
  rw [loop_still m.cards.length m.cards m.cards (body := (fun (x21, x22) => cond (decide (x21 < (x22.length : Int))) (Option.bind (ixo x22 x21) fun y25 => Option.bind (appo 56 ([] : List Scale) y25.scales) fun l42 => Option.bind (ixo x22 x21) fun y51 => Option.bind (loopM (S := Int × (List Scale)) (R := ((List Scale))) (fun (x80, x81) => cond (decide (x80 < (x81.length : Int))) (Option.bind (ixo x81 x80) fun y89 => Option.bind (appo 8 ([] : List Int) y89.cuts) fun l109 => Option.bind (appo 8 ([] : List Int) y89.points) fun l121 => Option.bind (seto x81 x80 (Scale.mk l109 y89.points y89.none_)) fun l146 => Option.bind (seto l146 x80 (Scale.mk ((Scale.mk l109 y89.points y89.none_).cuts) l121 ((Scale.mk l109 y89.points y89.none_).none_))) fun l169 => Option.bind (chk .i64 (x80 + 1)) fun n176 => some (.inl (n176, l169))) (some (.inr x81))) (0, l42)) fun x177 => Option.bind (chk .i64 (x21 + 1)) fun n178 => some (.inl (n178, (x22.set x21.toNat (Card.mk y51.weight y51.base x177))))) (some (.inr x22))))
    (fun i hi => by
      have hy := List.getElem?_eq_getElem hi
      have hsc := hs.scales _ (List.getElem_mem hi)
      have hcu := hs.cuts _ (List.getElem_mem hi)
      simp only [lt_cast hi, condT, ixo_at hy, bindS, chk_nat (i := i) (by omega)]
      rw [appo_ok (by simp; omega) (by simp; omega), bindS, List.nil_append]
      rw [loop_still m.cards[i].scales.length m.cards[i].scales m.cards[i].scales (body := (fun (x80, x81) => cond (decide (x80 < (x81.length : Int))) (Option.bind (ixo x81 x80) fun y89 => Option.bind (appo 8 ([] : List Int) y89.cuts) fun l109 => Option.bind (appo 8 ([] : List Int) y89.points) fun l121 => Option.bind (seto x81 x80 (Scale.mk l109 y89.points y89.none_)) fun l146 => Option.bind (seto l146 x80 (Scale.mk ((Scale.mk l109 y89.points y89.none_).cuts) l121 ((Scale.mk l109 y89.points y89.none_).none_))) fun l169 => Option.bind (chk .i64 (x80 + 1)) fun n176 => some (.inl (n176, l169))) (some (.inr x81))))
        (fun k hk => by
          have hz := List.getElem?_eq_getElem hk
          have hcp := hcu _ (List.getElem_mem hk)
          have hset := seto_same hz
          simp only [lt_cast hk, condT, ixo_at hz, bindS, chk_nat (i := k) (by omega)]
          rw [appo_ok (by simp; omega) (by simp; omega), bindS, List.nil_append, appo_ok (by simp; omega) (by simp; omega), bindS, List.nil_append]
          simp only [hset, bindS]) (by simp only [not_lt_cast, condF]), bindS]
      rw [show (Card.mk m.cards[i].weight m.cards[i].base m.cards[i].scales) = m.cards[i] from rfl, set_same hy]) (by simp only [not_lt_cast, condF]), bindS, bindS]
  rw [loop_still m.trees.length m.trees m.trees (body := (fun (x195, x196) => cond (decide (x195 < (x196.length : Int))) (Option.bind (ixo x196 x195) fun y199 => Option.bind (appo 40 ([] : List Node) y199.nodes) fun l215 => Option.bind (ixo x196 x195) fun y224 => Option.bind (seto x196 x195 (Tree.mk y224.weight l215)) fun l247 => Option.bind (chk .i64 (x195 + 1)) fun n254 => some (.inl (n254, l247))) (some (.inr x196))))
    (fun i hi => by
      have hy := List.getElem?_eq_getElem hi
      have hn := hs.nodes _ (List.getElem_mem hi)
      have hset := seto_same hy
      simp only [lt_cast hi, condT, ixo_at hy, bindS, chk_nat (i := i) (by omega)]
      rw [appo_ok (by simp; omega) (by simp; omega), bindS, List.nil_append]
      simp only [hset, bindS]) (by simp only [not_lt_cast, condF]), bindS]
theorem any_false {α : Type} (l : List α) : (l.any fun _ => false) = false := by simp
theorem p_Same (m : Model) (hs : Small m) : P.ref06_Same m m = some true := by
  have hc6 := hs.cards
  have ht6 := hs.trees
  unfold P.ref06_Same
  simp only [decide_true, notT, condF, bindS]
  rw [loop_any0 m.cards (fun _ => false) (.inr false) (.inl ()) (fun i y hy => by
    have hi := get_lt hy
    have hsc := hs.scales _ (List.mem_of_getElem? hy)
    have hcu := hs.cuts _ (List.mem_of_getElem? hy)
    simp only [lt_cast hi, condT, ixo_at hy, bindS, decide_true, notT, condF, chk_nat (i := i) (by omega)]
    rw [loop_any0 y.scales (fun _ => false) (.inr false) (.inl ()) (fun k z hz => by
      have hk := get_lt hz
      have hcp := hcu _ (List.mem_of_getElem? hz)
      simp only [lt_cast hk, condT, ixo_at hz, bindS, decide_true, notT, condF, chk_nat (i := k) (by omega), p_ints z.cuts z.cuts (by omega), p_ints z.points z.points (by omega)]) (by simp only [not_lt_cast, condF]), any_false]
    simp only [condF, bindS, elimLS]) (by simp only [not_lt_cast, condF]), any_false]
  simp only [condF, bindS, elimLS]
  rw [loop_any0 m.trees (fun _ => false) (.inr false) (.inl ()) (fun i y hy => by
    have hi := get_lt hy
    have hn := hs.nodes _ (List.mem_of_getElem? hy)
    simp only [lt_cast hi, condT, ixo_at hy, bindS, decide_true, notT, condF, chk_nat (i := i) (by omega)]
    rw [loop_any0 y.nodes (fun _ => false) (.inr false) (.inl ()) (fun k z hz => by
      have hk := get_lt hz
      simp only [lt_cast hk, condT, ixo_at hz, bindS, decide_true, notT, condF, chk_nat (i := k) (by omega)]) (by simp only [not_lt_cast, condF]), any_false]
    simp only [condF, bindS, elimLS]) (by simp only [not_lt_cast, condF]), any_false]
  simp only [condF, bindS, elimLS]
/-- The law. -/
theorem p_ScoreScores (m : Model) (x : List Int) : P.law06_ScoreScores m x = some true := by
  unfold P.law06_ScoreScores
  rw [show (Model.mk m.traits m.cards m.trees m.need) = m from rfl, p_great m, bindS]
  cases h1 : great m with
  | true => simp only [condT, bindS]
  | false =>
    have hs := small_of h1
    by_cases h2 : (10 : Int) < x.length
    · simp only [decide_eq_true h2, condF, condT, bindS]
    · have hx : x.length ≤ 10 := by omega
      simp only [decide_eq_false h2, condF, bindS]
      rw [p_Twin m hs, bindS, appo_ok (by simp; omega) (by simp; omega), bindS, List.nil_append, show (Model.mk m.traits m.cards m.trees m.need) = m from rfl, p_SScore m x hs hx, bindS, p_Score m x hs hx, bindS, p_SPoints m x hs hx, bindS, p_Points m x hs hx, bindS, p_Check m hs, bindS, p_check m hs.cards hs.trees hs.scales hs.nodes, bindS]
      have hal : ∀ l : List Int, l = (if (modelOk m && valuesOk m x) = true then all m x else []) → l.length ≤ 1000000 := fun l hl => by
        have h3 := all_len (m := m) (x := x)
        have h4 := hs.cards
        have h5 := hs.trees
        rw [hl]
        split
        · omega
        · simp
      have bt : ∀ b : Bool, (b == b) = true := fun b => by cases b <;> rfl
      simp only [decide_true, bt, condT]
      rw [p_same _ _ (by have := hal _ rfl; omega), bindS]
      simp only [decide_true, condT]
      rw [p_Same m hs, bindS, condT, p_same x x (by omega)]
      simp only [decide_true, bindS]
end S
end Go.Proofs.Ytecmlmngcnionaa
