/-
  What the score's own functions reckon, as far as the shelf: searching, sorting, counting.
-/
import Derived.Test.YtecmlmngcnionaaPureScore3
namespace Go.Proofs.Ytecmlmngcnionaa
open Go Go.Sx
namespace S
theorem loop_inv2 {S R : Type} {body : S → Option (S ⊕ R)} (I : S → Prop) (μ : S → Nat) {Q : R → Prop} (step : ∀ s, I s → (∃ s', body s = some (.inl s') ∧ I s' ∧ μ s' < μ s) ∨ (∃ r, body s = some (.inr r) ∧ Q r)) (s : S) (hs : I s) : ∃ r, loopM body s = some r ∧ Q r :=
  loopM_inv (Q := Q) I μ (fun s hs => by
    rcases step s hs with ⟨s', h, h1, h2⟩ | ⟨r, h, h1⟩
    · exact ⟨_, h, (fun x hx => by cases hx; exact ⟨h1, h2⟩), (fun x hx => by cases hx)⟩
    · exact ⟨_, h, (fun x hx => by cases hx), (fun x hx => by cases hx; exact h1)⟩) s hs
theorem find_idx {α : Type} (p : α → Bool) : ∀ (l : List α) (k : Nat), (((l.zipIdx k).findSome? fun q => if p q.1 then some (Sum.inr (q.2 : Int) : Unit ⊕ Int) else none).getD (.inl ())) = match l.findIdx? p with | some i => .inr ((i + k : Nat) : Int) | none => .inl ()
  | [], _ => by simp
  | a :: l, k => by
    rw [List.zipIdx_cons, List.findSome?_cons, List.findIdx?_cons]
    cases h : p a with
    | true => simp
    | false =>
      simp only [Bool.false_eq_true, if_false]
      rw [find_idx p l (k + 1)]
      cases l.findIdx? p with
      | none => rfl
      | some i => simp only [Option.map_some]; congr 2; omega
theorem idx_loop {α : Type} (l : List α) (f : α → Option Bool) (p : α → Bool) (hf : ∀ y ∈ l, f y = some (p y)) (hl : l.length ≤ 1000000) :
    (Option.bind (loopM (S := Int) (R := (Unit) ⊕ (Int)) (fun x1 => cond (decide (x1 < (l.length : Int))) (Option.bind (ixo l x1) fun y3 => Option.bind (f y3) fun z14 => cond z14 (some (.inr (.inr x1))) (Option.bind (chk .i64 (x1 + 1)) fun n20 => some (.inl n20))) (some (.inr (.inl ())))) 0) fun j21 => Sum.elim (fun _ => some (-1)) (fun r22 => some r22)  j21) = some (idx p l) := by
  have key : loopM (S := Int) (R := Unit ⊕ Int) (fun x1 => cond (decide (x1 < (l.length : Int))) (Option.bind (ixo l x1) fun y3 => Option.bind (f y3) fun z14 => cond z14 (some (.inr (.inr x1))) (Option.bind (chk .i64 (x1 + 1)) fun n20 => some (.inl n20))) (some (.inr (.inl ())))) 0 = some (((l.zipIdx 0).findSome? fun q => if p q.1 then some (Sum.inr (q.2 : Int) : Unit ⊕ Int) else none).getD (.inl ())) := loop_find (body := fun x1 => cond (decide (x1 < (l.length : Int))) (Option.bind (ixo l x1) fun y3 => Option.bind (f y3) fun z14 => cond z14 (some (.inr (.inr x1))) (Option.bind (chk .i64 (x1 + 1)) fun n20 => some (.inl n20))) (some (.inr (.inl ())))) l (fun i => (i : Int)) (fun i y => if p y then some (Sum.inr (i : Int) : Unit ⊕ Int) else none) (.inl ()) (fun i y hy => by
    have hi := get_lt hy
    simp only [lt_cast hi, condT, ixo_at hy, bindS, hf y (List.mem_of_getElem? hy), chk_nat (i := i) (by omega)]
    cases p y with
    | true => simp only [condT, if_true]
    | false => simp [condF]) (by simp only [not_lt_cast, condF])
  rw [key, find_idx p l 0, bindS]
  unfold idx
  cases l.findIdx? p <;> simp [elimLS, elimRS]
theorem p_idx67 (l : List Int) (f : Int → Option Bool) (p : Int → Bool) (hf : ∀ y ∈ l, f y = some (p y)) (hl : l.length ≤ 1000000) : P.slices_IndexFunc_67 l f = some (idx p l) := by
  unfold P.slices_IndexFunc_67; exact idx_loop l f p hf hl
theorem p_idx134 (l : List Scale) (f : Scale → Option Bool) (p : Scale → Bool) (hf : ∀ y ∈ l, f y = some (p y)) (hl : l.length ≤ 1000000) : P.slices_IndexFunc_134 l f = some (idx p l) := by
  unfold P.slices_IndexFunc_134; exact idx_loop l f p hf hl
theorem p_idx66 (l : List I87) (f : I87 → Option Bool) (p : I87 → Bool) (hf : ∀ y ∈ l, f y = some (p y)) (hl : l.length ≤ 1000000) : P.slices_IndexFunc_66 l f = some (idx p l) := by
  unfold P.slices_IndexFunc_66; exact idx_loop l f p hf hl
theorem p_has56 (l : List Int) (f : Int → Option Bool) (p : Int → Bool) (hf : ∀ y ∈ l, f y = some (p y)) (hl : l.length ≤ 1000000) : P.slices_ContainsFunc_56 l f = some (l.any p) := by
  unfold P.slices_ContainsFunc_56; rw [p_idx67 l f p hf hl, bindS, ← idx_ge]
theorem p_has130 (l : List Scale) (f : Scale → Option Bool) (p : Scale → Bool) (hf : ∀ y ∈ l, f y = some (p y)) (hl : l.length ≤ 1000000) : P.slices_ContainsFunc_130 l f = some (l.any p) := by
  unfold P.slices_ContainsFunc_130; rw [p_idx134 l f p hf hl, bindS, ← idx_ge]
theorem p_has54 (l : List I87) (f : I87 → Option Bool) (p : I87 → Bool) (hf : ∀ y ∈ l, f y = some (p y)) (hl : l.length ≤ 1000000) : P.slices_ContainsFunc_54 l f = some (l.any p) := by
  unfold P.slices_ContainsFunc_54; rw [p_idx66 l f p hf hl, bindS, ← idx_ge]
theorem p_swithin (lo hi : Int) (l : List Int) (hl : l.length ≤ 1000000) : P.score_within lo hi l = some (l.all fun n => decide (lo ≤ n ∧ n ≤ hi)) := by
  unfold P.score_within
  rw [p_has56 l _ (fun n => !decide (lo ≤ n ∧ n ≤ hi)) (fun y _ => by
    unfold P.score_within_in1
    by_cases h : y < lo
    · have : ¬ (lo ≤ y ∧ y ≤ hi) := by omega
      simp [h, this]
    · by_cases h2 : hi < y
      · have : ¬ (lo ≤ y ∧ y ≤ hi) := by omega
        simp [h, h2, this]
      · have : lo ≤ y ∧ y ≤ hi := by omega
        simp [h, h2, this]) hl, bindS, List.all_eq_not_any_not]
theorem p_counts (l : List Int) (hl : l.length ≤ 1000000) : P.score_counts l = some (l.all pt) := by
  unfold P.score_counts; rw [p_swithin _ _ _ hl, bindS]; rfl
theorem p_less (x y : Int) : P.cmp_Less_102 x y = some (decide (x < y)) := by
  unfold P.cmp_Less_102 P.cmp_isNaN_89; simp
theorem p_sorted (x : List Int) (hl : x.length ≤ 1000000) : P.slices_IsSorted_135 x = some (sorted x) := by
  unfold P.slices_IsSorted_135
  rw [chk_i64 (by omega), bindS]
  obtain ⟨r, h1, h2⟩ := loop_inv2 (body := fun x2 => cond (decide (0 < x2)) (Option.bind (ixo x x2) fun y4 => Option.bind (chk .i64 (x2 - 1)) fun n11 => Option.bind (ixo x n11) fun y12 => Option.bind (P.cmp_Less_102 y4 y12) fun z19 => cond z19 (some (.inr (.inr false))) (Option.bind (chk .i64 (x2 - 1)) fun n27 => some (.inl n27))) (some (.inr (.inl ()))))
    (fun k : Int => k ≤ (x.length : Int) - 1 ∧ ∀ j : Nat, k ≤ (j : Int) → ∀ c d, x[j]? = some c → x[j + 1]? = some d → c ≤ d) (fun k => k.toNat) (Q := fun r : Unit ⊕ Bool => r = if sorted x then .inl () else .inr false)
    (fun k ⟨hk, hs⟩ => by
      by_cases h0 : 0 < k
      · have e0 : decide (0 < k) = true := decide_eq_true h0
        have ha : x[k.toNat]? = some x[k.toNat] := List.getElem?_eq_getElem (by omega)
        have hb : x[(k - 1).toNat]? = some x[(k - 1).toNat] := List.getElem?_eq_getElem (by omega)
        have hc : chk .i64 (k - 1) = some (k - 1) := chk_i64 (by omega)
        simp only [e0, condT, ixo_some (by omega) ha, ixo_some (show 0 ≤ k - 1 by omega) hb, hc, bindS, p_less]
        by_cases e : x[k.toNat] < x[(k - 1).toNat]
        · right
          refine ⟨.inr false, by simp only [decide_eq_true e, condT], ?_⟩
          rw [sorted_not ha hb h0 e]; rfl
        · left
          refine ⟨k - 1, by simp only [decide_eq_false e, condF], ⟨by omega, sorted_step hs h0 ha hb e⟩, by omega⟩
      · right
        have e0 : decide (0 < k) = false := decide_eq_false h0
        refine ⟨.inl (), by simp only [e0, condF], ?_⟩
        rw [sorted_all fun j c d hc hd => hs j (by omega) c d hc hd]; rfl) ((x.length : Int) - 1) ⟨by omega, fun j hj c d hc hd => by have := get_lt hd; omega⟩
  rw [h1, bindS, h2]
  cases sorted x <;> simp [elimLS, elimRS]
theorem p_clone (l : List Int) (hl : l.length ≤ 1000000) : P.slices_Clone_58 l = some l := by
  unfold P.slices_Clone_58
  refine nilq_same (fun h => ?_) ?_
  · subst h; rfl
  · rw [condF, appo_ok (by simp; omega) (by simp; omega), bindS, List.nil_append]
/-- No two neighbours are equal. -/
def apart (x : List Int) : Prop := ∀ (j : Nat) (c d : Int), x[j]? = some c → x[j + 1]? = some d → c ≠ d
theorem p_compact (s : List Int) (hl : s.length ≤ 1000000) : ∃ l, P.slices_Compact_78 s = some l ∧ (l.length = s.length ↔ apart s) := by
  unfold P.slices_Compact_78
  by_cases h0 : s.length < 2
  · have e0 : decide ((s.length : Int) < 2) = true := decide_eq_true (by omega)
    refine ⟨s, by rw [e0, condT], ⟨fun _ j c d hc hd => ?_, fun _ => rfl⟩⟩
    have := get_lt hd
    omega
  · have e0 : decide ((s.length : Int) < 2) = false := decide_eq_false (by omega)
    rw [e0, condF]
    obtain ⟨r, h1, h2⟩ := loop_inv2 (body := (fun x2 => cond (decide (x2 < (s.length : Int))) (Option.bind (ixo s x2) fun y4 => Option.bind (chk .i64 (x2 - 1)) fun n11 => Option.bind (ixo s n11) fun y12 => cond (decide (y4 = y12)) (Option.bind (cutLo s x2) fun l23 => Option.bind (loopM (S := Int × Int × (List Int)) (R := (Int × (List Int))) (fun (x26, x27, x28) => Option.bind (cutLo x28 x2) fun l29 => cond (decide (x27 < (l29.length : Int))) (Option.bind (Option.bind (cutLo x28 x2) fun l31 => Option.bind (ixo l31 x27) fun y32 => Option.bind (chk .i64 (x27 - 1)) fun n40 => Option.bind (cutLo x28 x2) fun l41 => Option.bind (ixo l41 n40) fun y42 => Option.bind (cond (!decide (y32 = y42)) (Option.bind (cutLo x28 x2) fun l54 => Option.bind (ixo l54 x27) fun y55 => Option.bind (ixo x28 x26) fun y63 => Option.bind (seto x28 x26 y55) fun l70 => Option.bind (chk .i64 (x26 + 1)) fun n74 => some (n74, l70)) (some (x26, x28))) fun (x75, x76) => some (x75, x76)) fun (x77, x78) => Option.bind (chk .i64 (x27 + 1)) fun n79 => some (.inl (x77, n79, x78))) (some (.inr (x26, x28)))) (x2, 1, s)) fun (x80, x81) => Option.bind (cutLo x81 x80) fun l82 => Option.bind (cutHi (x81.take x80.toNat ++ List.replicate l82.length 0) x80) fun l88 => some (.inr (.inr l88))) (Option.bind (chk .i64 (x2 + 1)) fun n92 => some (.inl n92))) (some (.inr (.inl ())))))
      (fun k : Int => 1 ≤ k ∧ k ≤ s.length ∧ ∀ j : Nat, (j : Int) + 1 < k → ∀ c d, s[j]? = some c → s[j + 1]? = some d → c ≠ d) (fun k => s.length - k.toNat) (Q := fun r : Unit ⊕ List Int => (r = .inl () ∧ apart s) ∨ ∃ l, r = .inr l ∧ l.length < s.length ∧ ¬ apart s)
      (fun k ⟨hk1, hk2, hs⟩ => by
        by_cases hk : k < (s.length : Int)
        · have e1 : decide (k < (s.length : Int)) = true := decide_eq_true hk
          have ha : s[k.toNat]? = some s[k.toNat] := List.getElem?_eq_getElem (by omega)
          have hb : s[(k - 1).toNat]? = some s[(k - 1).toNat] := List.getElem?_eq_getElem (by omega)
          have hc : chk .i64 (k - 1) = some (k - 1) := chk_i64 (by omega)
          have hc2 : chk .i64 (k + 1) = some (k + 1) := chk_i64 (by omega)
          have hj : k.toNat = (k - 1).toNat + 1 := by omega
          simp only [e1, condT, ixo_some (show 0 ≤ k by omega) ha, ixo_some (show 0 ≤ k - 1 by omega) hb, hc, hc2, bindS]
          by_cases e : s[k.toNat] = s[(k - 1).toNat]
          · right
            have e2 : decide (s[k.toNat] = s[(k - 1).toNat]) = true := decide_eq_true e
            have hcut : ∀ l : List Int, l.length = s.length → cutLo l k = some (l.drop k.toNat) := fun l hl => by unfold cutLo; rw [if_pos ⟨by omega, by omega⟩]
            simp only [e2, condT, hcut s rfl, bindS]
            obtain ⟨⟨n, l⟩, g1, g2⟩ := loop_inv2 (body := (fun (x26, x27, x28) => Option.bind (cutLo x28 k) fun l29 => cond (decide (x27 < (l29.length : Int))) (Option.bind (Option.bind (cutLo x28 k) fun l31 => Option.bind (ixo l31 x27) fun y32 => Option.bind (chk .i64 (x27 - 1)) fun n40 => Option.bind (cutLo x28 k) fun l41 => Option.bind (ixo l41 n40) fun y42 => Option.bind (cond (!decide (y32 = y42)) (Option.bind (cutLo x28 k) fun l54 => Option.bind (ixo l54 x27) fun y55 => Option.bind (ixo x28 x26) fun y63 => Option.bind (seto x28 x26 y55) fun l70 => Option.bind (chk .i64 (x26 + 1)) fun n74 => some (n74, l70)) (some (x26, x28))) fun (x75, x76) => some (x75, x76)) fun (x77, x78) => Option.bind (chk .i64 (x27 + 1)) fun n79 => some (.inl (x77, n79, x78))) (some (.inr (x26, x28)))))
              (fun t : Int × Int × List Int => t.2.2.length = s.length ∧ k ≤ t.1 ∧ 1 ≤ t.2.1 ∧ t.2.1 ≤ s.length - k ∧ t.1 ≤ k + t.2.1 - 1) (fun t => s.length - t.2.1.toNat) (Q := fun r : Int × List Int => r.2.length = s.length ∧ k ≤ r.1 ∧ r.1 < s.length)
              (fun ⟨i, j, l⟩ ⟨q1, q2, q3, q4, q5⟩ => by
                simp only at q1 q2 q3 q4 q5
                have hdl : (l.drop k.toNat).length = s.length - k.toNat := by rw [List.length_drop, q1]
                simp only [hcut l q1, bindS]
                by_cases hj2 : j < ((l.drop k.toNat).length : Int)
                · have e3 : decide (j < ((l.drop k.toNat).length : Int)) = true := decide_eq_true hj2
                  have hx : (l.drop k.toNat)[j.toNat]? = some (l.drop k.toNat)[j.toNat] := List.getElem?_eq_getElem (by omega)
                  have hy : (l.drop k.toNat)[(j - 1).toNat]? = some (l.drop k.toNat)[(j - 1).toNat] := List.getElem?_eq_getElem (by omega)
                  have hz : l[i.toNat]? = some l[i.toNat] := List.getElem?_eq_getElem (by omega)
                  have hc3 : chk .i64 (j - 1) = some (j - 1) := chk_i64 (by omega)
                  have hc4 : chk .i64 (j + 1) = some (j + 1) := chk_i64 (by omega)
                  have hc5 : chk .i64 (i + 1) = some (i + 1) := chk_i64 (by omega)
                  have hset : ∀ z, seto l i z = some (l.set i.toNat z) := fun z => by unfold seto; rw [if_pos ⟨by omega, by omega⟩]
                  simp only [e3, condT, ixo_some (show 0 ≤ j by omega) hx, ixo_some (show 0 ≤ j - 1 by omega) hy, ixo_some (show 0 ≤ i by omega) hz, hc3, hc4, hc5, hset, bindS]
                  left
                  by_cases e4 : (l.drop k.toNat)[j.toNat] = (l.drop k.toNat)[(j - 1).toNat]
                  · have e5 := decide_eq_true e4
                    refine ⟨(i, j + 1, l), by simp only [e5, notT, condF, bindS], ?_, ?_⟩ <;> simp only <;> omega
                  · have e5 := decide_eq_false e4
                    refine ⟨(i + 1, j + 1, l.set i.toNat (l.drop k.toNat)[j.toNat]), by simp only [e5, notF, condT, bindS], ?_, ?_⟩ <;> simp only [List.length_set] <;> omega
                · have e3 : decide (j < ((l.drop k.toNat).length : Int)) = false := decide_eq_false hj2
                  right
                  exact ⟨(i, l), by simp only [e3, condF], q1, q2, by simp only; omega⟩) (k, 1, s) ⟨rfl, by simp only; omega, by simp only; omega, by simp only; omega, by simp only; omega⟩
            simp only at g2
            rw [g1]
            simp only [bindS]
            have hcl : cutLo l n = some (l.drop n.toNat) := by unfold cutLo; rw [if_pos ⟨by omega, by omega⟩]
            rw [hcl, bindS]
            have hlen : (l.take n.toNat ++ List.replicate (l.drop n.toNat).length (0 : Int)).length = s.length := by simp; omega
            have hch : cutHi (l.take n.toNat ++ List.replicate (l.drop n.toNat).length (0 : Int)) n = some ((l.take n.toNat ++ List.replicate (l.drop n.toNat).length (0 : Int)).take n.toNat) := by unfold cutHi; rw [if_pos ⟨by omega, by omega⟩]
            rw [hch, bindS]
            refine ⟨_, rfl, .inr ⟨_, rfl, ?_, fun hap => ?_⟩⟩
            · rw [List.length_take]; omega
            · have ha' : s[(k - 1).toNat + 1]? = some s[k.toNat] := by rw [← hj]; exact ha
              exact hap _ _ _ hb ha' e.symm
          · left
            have e2 : decide (s[k.toNat] = s[(k - 1).toNat]) = false := decide_eq_false e
            refine ⟨k + 1, by simp only [e2, condF, bindS], ⟨by omega, by omega, fun j hj2 c d hc hd => ?_⟩, by omega⟩
            by_cases h9 : (j : Int) + 1 < k
            · exact hs j h9 c d hc hd
            · have : j = (k - 1).toNat := by omega
              subst this
              rw [hb] at hc; rw [← hj, ha] at hd
              cases hc; cases hd
              exact fun h => e h.symm
        · have e1 : decide (k < (s.length : Int)) = false := decide_eq_false hk
          right
          refine ⟨.inl (), by simp only [e1, condF], .inl ⟨rfl, fun j c d hc hd => hs j ?_ c d hc hd⟩⟩
          have := get_lt hd
          omega) 1 ⟨by omega, by omega, fun j hj => by omega⟩
    rw [h1, bindS]
    rcases h2 with ⟨rfl, h2⟩ | ⟨l, rfl, h2, h3⟩
    · exact ⟨s, by rw [elimLS], ⟨fun _ => h2, fun _ => rfl⟩⟩
    · exact ⟨l, by rw [elimRS], ⟨fun h => by omega, fun h => absurd h h3⟩⟩
theorem p_measured (s : Scale) (hc : s.cuts.length ≤ 10) (hp : s.points.length ≤ 12) : P.score_measured s = some (scaleOk s) := by
  unfold P.score_measured
  by_cases h1 : 3 < s.cuts.length
  · have h1' : (3 : Int) < s.cuts.length := by omega
    have : scaleOk s = false := by simp [scaleOk]; omega
    simp [h1', this]
  · have h1' : decide ((3 : Int) < s.cuts.length) = false := decide_eq_false (by omega)
    have h1'' : s.cuts.length ≤ 3 := by omega
    simp only [h1', condF]
    rw [chk_i64 (by omega), bindS]
    by_cases h2 : (s.points.length : Int) = s.cuts.length + 1
    · have h2' : s.points.length = s.cuts.length + 1 := by omega
      rw [p_counts _ (by simp), p_counts _ (by omega), p_swithin _ _ _ (by omega)]
      have e2 : decide ((s.points.length : Int) = s.cuts.length + 1) = true := decide_eq_true h2
      simp only [e2, notT, condF, bindS, List.all_cons, List.all_nil, Bool.and_true]
      unfold scaleOk
      simp only [h1'', h2', decide_true, Bool.true_and]
      cases h3 : pt s.none_ with
      | false => simp only [notF, condT, bindS, Bool.false_and]
      | true =>
        simp only [notT, condF, Bool.true_and]
        cases h4 : s.points.all pt with
        | false => simp only [notF, condT, bindS, Bool.and_false]
        | true =>
          simp only [notT, condF, Bool.and_true]
          cases h5 : s.cuts.all (fun c => decide (1 ≤ c ∧ c ≤ 1000000)) with
          | false => simp only [notF, condT, bindS, Bool.false_and]
          | true =>
            simp only [notT, condF, bindS, Bool.true_and]
            rw [p_sorted _ (by omega), bindS]
            cases h6 : sorted s.cuts with
            | false =>
              simp only [condF, bindS]
              congr 1
              refine (Bool.eq_false_iff.2 fun hr => ?_).symm
              have := (sorted_iff s.cuts).2 fun j c d hc hd => Int.le_of_lt ((rising_iff _).1 hr j c d hc hd)
              rw [h6] at this; cases this
            | true =>
              rw [condT, p_clone _ (by omega), bindS]
              obtain ⟨l, g1, g2⟩ := p_compact s.cuts (by omega)
              rw [g1]
              simp only [bindS]
              congr 1
              rw [Bool.eq_iff_iff, decide_eq_true_eq]
              constructor
              · intro h
                have hap := g2.1 (by omega)
                exact (rising_iff _).2 fun j c d hc hd => by
                  have a := (sorted_iff s.cuts).1 h6 j c d hc hd
                  have b := hap j c d hc hd
                  omega
              · intro hr
                have := g2.2 fun j c d hc hd => by have := (rising_iff _).1 hr j c d hc hd; omega
                omega
    · have : scaleOk s = false := by
        simp only [scaleOk, Bool.and_eq_false_iff, decide_eq_false_iff_not]
        left; left; left; left; right; omega
      simp [h2, this]
end S
end Go.Proofs.Ytecmlmngcnionaa
