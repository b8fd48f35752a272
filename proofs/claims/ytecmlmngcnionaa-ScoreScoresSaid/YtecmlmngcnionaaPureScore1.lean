/-
  What the reference of the score reckons is what the plain text of it says.
-/
import Derived.Test.YtecmlmngcnionaaSpecScore2
import Derived.Test.YtecmlmngcnionaaSxLoop
import Derived.Test.YtecmlmngcnionaaN5
namespace Go.Proofs.Ytecmlmngcnionaa
open Go Go.Sx
namespace S
theorem p_within (n lo hi : Int) : P.ref06_within n lo hi = some (decide (lo ≤ n ∧ n ≤ hi)) := by
  unfold P.ref06_within
  by_cases h : lo ≤ n <;> simp [h]
theorem p_points (n : Int) : P.ref06_points n = some (pt n) := by
  unfold P.ref06_points; rw [p_within]; rfl
theorem p_ints (a b : List Int) (h : a.length ≤ 9223372036854775806) : P.ref06_ints a b = some (decide (a = b)) := by
  unfold P.ref06_ints
  by_cases hl : (a.length : Int) = b.length
  · simp only [hl, decide_true, notT, condF]
    have hlen : a.length = b.length := by omega
    rw [← hl]
    rw [loop_any a (fun y i => !decide (b[i]? = some y)) (.inr false) (.inl ()) (fun i y hy => by
      have hi := get_lt hy
      obtain ⟨z, hb⟩ : ∃ z, b[i]? = some z := ⟨b[i]'(by omega), List.getElem?_eq_getElem (by omega)⟩
      simp only [ixo_at hy, ixo_at hb, lt_cast hi, chk_nat (i := i) (by omega), condT, bindS, hb]
      by_cases e : y = z
      · subst e; simp
      · have e' : ¬ z = y := fun h => e h.symm
        simp [e, e']) (by simp)]
    have : (a.zipIdx.any fun p => !decide (b[p.2]? = some p.1)) = !decide (a = b) := by
      rw [Bool.eq_iff_iff]
      simp only [List.any_eq_true, Bool.not_eq_true', decide_eq_false_iff_not]
      constructor
      · rintro ⟨p, hp, hne⟩ rfl
        exact hne (List.mem_zipIdx_iff_getElem?.1 hp)
      · intro hne
        refine Classical.byContradiction fun hall => hne ?_
        apply List.ext_getElem?
        intro i
        rcases Nat.lt_or_ge i a.length with hi | hi
        · have hy := List.getElem?_eq_getElem hi
          rw [hy]
          exact Eq.symm (Classical.byContradiction fun h9 => hall ⟨(a[i], i), List.mem_zipIdx_iff_getElem?.2 hy, h9⟩)
        · rw [List.getElem?_eq_none hi, List.getElem?_eq_none (by omega)]
    rw [this]
    by_cases e : a = b <;> simp [e]
  · have : a ≠ b := fun e => hl (by rw [e])
    simp [hl, this]
theorem p_same (a b : List Int) (h : a.length ≤ 9223372036854775806) : P.ref01_SameInts a b = some (decide (a = b)) := p_ints a b h
theorem p_scale (s : Scale) : P.ref06_scale s = some (scaleOk s) := by
  unfold P.ref06_scale
  by_cases h1 : 3 < s.cuts.length
  · have h1' : (3 : Int) < s.cuts.length := by omega
    have : scaleOk s = false := by simp [scaleOk]; omega
    simp [h1', this]
  · have h1' : ¬ (3 : Int) < s.cuts.length := by omega
    simp only [h1', decide_false, condF]
    rw [chk_i64 (by omega), bindS]
    by_cases h2 : (s.points.length : Int) = s.cuts.length + 1
    · simp only [h2, decide_true, notT, condF, p_points, bindS]
      cases h3 : pt s.none_ with
      | false => simp [scaleOk, h3]
      | true =>
        simp only [notT, condF]
        rw [loop_any s.cuts (fun y i => !decide (1 ≤ y ∧ y ≤ 1000000) || (decide (0 < i) && decide (y ≤ (s.cuts[i - 1]?).getD 0))) (.inr false) (.inl ()) (fun i y hy => by
          have hi := get_lt hy
          simp only [p_within]
          by_cases e1 : 1 ≤ y ∧ y ≤ 1000000
          · by_cases e2 : 0 < i
            · have hp : s.cuts[i - 1]? = some s.cuts[i - 1] := List.getElem?_eq_getElem (by omega)
              have e3 : ((i : Int) - 1) = ((i - 1 : Nat) : Int) := by omega
              have hc : chk .i64 ((i : Int) - 1) = some ((i - 1 : Nat) : Int) := by rw [chk_i64 (by omega), e3]
              simp only [ixo_at hy, lt_cast hi, chk_nat (i := i) (by omega), condT, bindS, hc, ixo_at hp, hp, Option.getD_some, e1, and_self, decide_true]
              by_cases e4 : y ≤ s.cuts[i - 1] <;> simp [e2, e4]
            · have e5 : ¬ (0 : Int) < i := by omega
              simp only [ixo_at hy, lt_cast hi, chk_nat (i := i) (by omega), condT, bindS, e1, and_self, decide_true]
              simp [e2]
          · simp only [ixo_at hy, lt_cast hi, chk_nat (i := i) (by omega), condT, bindS, e1, decide_false]
            simp) (by simp)]
        simp only [bindS]
        have hr : (s.cuts.zipIdx.any fun p => !decide (1 ≤ p.1 ∧ p.1 ≤ 1000000) || (decide (0 < p.2) && decide (p.1 ≤ (s.cuts[p.2 - 1]?).getD 0))) = !((s.cuts.all fun c => decide (1 ≤ c ∧ c ≤ 1000000)) && rising s.cuts) := by
          rw [Bool.eq_iff_iff]
          simp only [List.any_eq_true, Bool.or_eq_true, Bool.not_eq_true', decide_eq_false_iff_not, Bool.and_eq_true, decide_eq_true_eq, Bool.and_eq_false_iff]
          constructor
          · rintro ⟨⟨y, i⟩, hp, h | ⟨h, h'⟩⟩
            · left; rw [List.all_eq_false]; exact ⟨y, List.mem_of_getElem? (List.mem_zipIdx_iff_getElem?.1 hp), by simpa using h⟩
            · right
              refine Bool.eq_false_iff.2 fun hr => ?_
              have hy := List.mem_zipIdx_iff_getElem?.1 hp
              simp only at hy h h'
              have hi := get_lt hy
              have hq : s.cuts[i - 1]? = some s.cuts[i - 1] := List.getElem?_eq_getElem (by omega)
              have := (rising_iff _).1 hr (i - 1) _ y hq (by rw [show i - 1 + 1 = i by omega]; exact hy)
              rw [hq] at h'; simp at h'; omega
          · rintro (h | h)
            · rw [List.all_eq_false] at h
              obtain ⟨y, hy, hn⟩ := h
              obtain ⟨i, hi⟩ := List.getElem?_of_mem hy
              exact ⟨(y, i), List.mem_zipIdx_iff_getElem?.2 hi, .inl (by simpa using hn)⟩
            · refine Classical.byContradiction fun hall => ?_
              have : rising s.cuts = true := (rising_iff _).2 fun j c d hc hd => by
                refine Classical.byContradiction fun hlt => hall ⟨(d, j + 1), List.mem_zipIdx_iff_getElem?.2 hd, .inr ⟨by simp, ?_⟩⟩
                simp [hc]; omega
              rw [this] at h; cases h
        rw [hr]
        cases h4 : ((s.cuts.all fun c => decide (1 ≤ c ∧ c ≤ 1000000)) && rising s.cuts) with
        | false =>
          have : scaleOk s = false := by
            simp only [scaleOk, Bool.and_assoc]
            rw [← Bool.and_assoc (s.cuts.all _), h4]; simp
          simp [this]
        | true =>
          simp only [notT, condF, elimLS]
          have hpl : s.points.length = s.cuts.length + 1 := by omega
          rw [show ((s.cuts.length : Int) + 1) = (s.points.length : Int) by omega]
          rw [loop_any0 s.points (fun y => !pt y) (.inr false) (.inl ()) (fun i y hy => by
            have hi := get_lt hy
            simp only [ixo_at hy, lt_cast hi, chk_nat (i := i) (by omega), condT, bindS, p_points]
            cases e : pt y <;> simp) (by simp)]
          have h5 : scaleOk s = !(s.points.any fun y => !pt y) := by
            simp only [scaleOk, Bool.and_assoc]
            rw [← Bool.and_assoc (s.cuts.all _), h4, h3]
            have : s.cuts.length ≤ 3 := by omega
            simp [this, hpl, List.all_eq_not_any_not]
          rw [h5]
          cases (s.points.any fun y => !pt y) <;> rfl
    · have : scaleOk s = false := by
        simp only [scaleOk, Bool.and_eq_false_iff, decide_eq_false_iff_not]
        left; left; left; left; right; omega
      simp [h2, this]
end S
end Go.Proofs.Ytecmlmngcnionaa
