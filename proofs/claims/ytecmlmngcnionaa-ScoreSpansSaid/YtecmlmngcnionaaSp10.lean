/-
  Part 10 of the texts that the statement's proof stands on: what memory holds, how code is walked, what the functions reckon. In the order in which they build.
-/

import Derived.Test.YtecmlmngcnionaaSp9
namespace Go.Proofs.Ytecmlmngcnionaa
open Go Go.Sx
namespace S
section
variable {m : Model} {x : List Span}
theorem listsT_of {t : Nat} {l : List Int} (h : (listsT m x)[t]? = some l) : ∃ s, x[t]? = some s ∧ l = stepsS m t s := by
  have hjl : t < x.length := by have := get_lt h; rw [listsT_len] at this; exact this
  have hy := List.getElem?_eq_getElem hjl
  rw [listsT_get hy] at h
  exact ⟨_, hy, (Option.some.inj h).symm⟩
theorem listsT_ne : ∀ l ∈ listsT m x, l ≠ [] := by
  intro l hl h
  obtain ⟨t, ht⟩ := List.getElem?_of_mem hl
  obtain ⟨s, _, rfl⟩ := listsT_of ht
  have := ((stepsS_good m t s).2 s.lo).2 (.inl rfl)
  rw [h] at this; cases this
theorem listsT_short (hm : modelOk m = true) (hlen : (x.length : Int) = m.traits) (hall : x.all okSpan = true) : ∀ l ∈ listsT m x, l.length ≤ 1000000 := by
  intro l hl
  obtain ⟨t, ht⟩ := List.getElem?_of_mem hl
  obtain ⟨s, hs, rfl⟩ := listsT_of ht
  have h1 := of_decide_eq_true (List.all_eq_true.1 hall s (List.mem_of_getElem? hs))
  have h2 := get_lt hs
  exact (p_stand m t s hm (by omega) (by omega)).2
theorem vals_ok (hlen : (x.length : Int) = m.traits) (hall : x.all okSpan = true) {a : List Int} (hok : okAt a (listsT m x)) : valuesOk m (vals a (listsT m x)) = true := by
  have hl := okAt_len hok
  rw [listsT_len] at hl
  refine valuesOk_iff.2 ⟨by rw [vals_len (okAt_len hok)]; omega, fun j y hy => ?_⟩
  have hj := get_lt hy
  rw [vals_len (okAt_len hok)] at hj
  have h1 : a[j]? = some a[j] := List.getElem?_eq_getElem hj
  have hjx : j < x.length := by omega
  have h2 := listsT_get (m := m) (List.getElem?_eq_getElem hjx)
  have hb := okAt_get hok j _ _ h1 h2
  have h3 : (stepsS m j x[j])[a[j].toNat]? = some (stepsS m j x[j])[a[j].toNat] := List.getElem?_eq_getElem (by omega)
  rw [vals_get h1 h2, h3] at hy
  have hv := steps_in (List.all_eq_true.1 hall _ (List.getElem_mem hjx)) (List.getElem_mem (show a[j].toNat < (stepsS m j x[j]).length by omega))
  have : y = (stepsS m j x[j])[a[j].toNat] := (Option.some.inj hy).symm
  omega
def fB (m : Model) (s : Bool × Int × Int) (v : List Int) : Bool × Int × Int := updB s (score m v)
theorem p_round (hm : modelOk m = true) (hlen : (x.length : Int) = m.traits) (hall : x.all okSpan = true) : ∀ (n : Nat) (a v : List Int) (lo hi : Int), (aft a (listsT m x)).length = n → okAt a (listsT m x) → v.length = a.length →
    ∃ a' v', loopM (S := (List (List Int)) × Bool × (List Int) × (List Int) × Int × Int) (R := ((List Int) × (List Int) × Int × Int)) (fun (x148, x149, x150, x151, x152, x153) => Option.bind (cond x149 (some (true, x150)) (Option.bind (P.ref06_next x150 x148) fun (z155, l156) => some (z155, l156))) fun (x162, x163) => cond x162 (Option.bind (loopM (S := Int × (List Int)) (R := ((List Int))) (fun (x165, x166) => cond (decide (x165 < (x163.length : Int))) (Option.bind (ixo x148 x165) fun y168 => Option.bind (ixo x163 x165) fun y176 => Option.bind (ixo y168 y176) fun y183 => Option.bind (ixo x166 x165) fun y190 => Option.bind (seto x166 x165 y183) fun l205 => Option.bind (chk .i64 (x165 + 1)) fun n212 => some (.inl (n212, l205))) (some (.inr x166))) (0, x151)) fun x213 => Option.bind (P.ref06_score m x213) fun z214 => Option.bind (Option.bind (cond x149 (some (z214, z214)) (some (x152, x153))) fun (x224, x225) => some (x224, x225)) fun (x226, x227) => some (.inl (x148, false, x163, x213, min x226 z214, max x227 z214))) (some (.inr (x163, x151, x152, x153)))) (listsT m x, false, a, v, lo, hi) = some (a', v', ((aft a (listsT m x)).foldl (fB m) (false, lo, hi)).2.1, ((aft a (listsT m x)).foldl (fB m) (false, lo, hi)).2.2) := by
  intro n
  have hmo := modelOk_iff.1 hm
  have hx5 : x.length ≤ 5 := by omega
  induction n with
  | zero =>
    intro a v lo hi hn hok hv
    have ha := okAt_len hok
    rw [listsT_len] at ha
    have hst := nx_step a _ hok listsT_ne
    have hnil : aft a (listsT m x) = [] := List.eq_nil_of_length_eq_zero hn
    have hnx : nx a (listsT m x) = none := by
      cases h : nx a (listsT m x) with
      | none => rfl
      | some a' => rw [h] at hst; rw [hst.1] at hnil; cases hnil
    have hp := p_next a (listsT m x) hok (by omega) (listsT_short hm hlen hall)
    rw [hnx] at hp
    simp only at hp
    rw [hnil]
    refine ⟨List.replicate a.length 0, v, ?_⟩
    refine loopM_end ?_
    dsimp only
    rw [condF, hp, bindS, bindS]
    dsimp only
    rw [condF]; rfl
  | succ n ih =>
    intro a v lo hi hn hok hv
    have ha := okAt_len hok
    rw [listsT_len] at ha
    have hst := nx_step a _ hok listsT_ne
    obtain ⟨a1, hnx⟩ : ∃ a1, nx a (listsT m x) = some a1 := by
      cases h : nx a (listsT m x) with
      | none => rw [h] at hst; simp only at hst; rw [hst] at hn; cases hn
      | some a' => exact ⟨a', rfl⟩
    rw [hnx] at hst
    obtain ⟨h1, hok1⟩ := hst
    have ha1 := okAt_len hok1
    rw [listsT_len] at ha1
    have hp := p_next a (listsT m x) hok (by omega) (listsT_short hm hlen hall)
    rw [hnx] at hp
    simp only at hp
    have hvals := p_vals (listsT m x) a1 v hok1 (by omega) (by omega)
    have hsc := p_score m _ hm (vals_ok hlen hall hok1)
    obtain ⟨a', v', hr⟩ := ih a1 (vals a1 (listsT m x)) (min lo (score m (vals a1 (listsT m x)))) (max hi (score m (vals a1 (listsT m x)))) (by rw [h1] at hn; simpa using hn) hok1 (vals_len (okAt_len hok1))
    refine ⟨a', v', ?_⟩
    rw [loopM_go (s' := (listsT m x, false, a1, vals a1 (listsT m x), min lo (score m (vals a1 (listsT m x))), max hi (score m (vals a1 (listsT m x)))))]
    · rw [hr, h1, List.foldl_cons]; rfl
    · dsimp only
      rw [condF, hp, bindS, bindS]
      dsimp only
      rw [condT, hvals, bindS, hsc, bindS, condF, bindS, bindS]
theorem p_first (hm : modelOk m = true) (hlen : (x.length : Int) = m.traits) (hall : x.all okSpan = true) :
    ∃ a' v', loopM (S := (List (List Int)) × Bool × (List Int) × (List Int) × Int × Int) (R := ((List Int) × (List Int) × Int × Int)) (fun (x148, x149, x150, x151, x152, x153) => Option.bind (cond x149 (some (true, x150)) (Option.bind (P.ref06_next x150 x148) fun (z155, l156) => some (z155, l156))) fun (x162, x163) => cond x162 (Option.bind (loopM (S := Int × (List Int)) (R := ((List Int))) (fun (x165, x166) => cond (decide (x165 < (x163.length : Int))) (Option.bind (ixo x148 x165) fun y168 => Option.bind (ixo x163 x165) fun y176 => Option.bind (ixo y168 y176) fun y183 => Option.bind (ixo x166 x165) fun y190 => Option.bind (seto x166 x165 y183) fun l205 => Option.bind (chk .i64 (x165 + 1)) fun n212 => some (.inl (n212, l205))) (some (.inr x166))) (0, x151)) fun x213 => Option.bind (P.ref06_score m x213) fun z214 => Option.bind (Option.bind (cond x149 (some (z214, z214)) (some (x152, x153))) fun (x224, x225) => some (x224, x225)) fun (x226, x227) => some (.inl (x148, false, x163, x213, min x226 z214, max x227 z214))) (some (.inr (x163, x151, x152, x153)))) (listsT m x, true, List.replicate x.length 0, List.replicate x.length 0, 0, 0) = some (a', v', (endsOf m x).2.1, (endsOf m x).2.2) := by
  have hmo := modelOk_iff.1 hm
  have hx5 : x.length ≤ 5 := by omega
  have hok : okAt (List.replicate x.length 0) (listsT m x) := by
    have := okAt_zero (ls := listsT m x) listsT_ne
    rwa [listsT_len] at this
  have hz := prodL_zero (listsT m x) listsT_ne
  rw [listsT_len] at hz
  have hvals := p_vals (listsT m x) (List.replicate x.length 0) (List.replicate x.length 0) hok (by simp) (by simp; omega)
  have hsc := p_score m _ hm (vals_ok hlen hall hok)
  obtain ⟨a', v', hr⟩ := p_round hm hlen hall _ (List.replicate x.length 0) (vals (List.replicate x.length 0) (listsT m x)) (min (score m (vals (List.replicate x.length 0) (listsT m x))) (score m (vals (List.replicate x.length 0) (listsT m x)))) (max (score m (vals (List.replicate x.length 0) (listsT m x))) (score m (vals (List.replicate x.length 0) (listsT m x)))) rfl hok (vals_len (okAt_len hok))
  refine ⟨a', v', ?_⟩
  rw [loopM_go (s' := (listsT m x, false, List.replicate x.length 0, vals (List.replicate x.length 0) (listsT m x), min (score m (vals (List.replicate x.length 0) (listsT m x))) (score m (vals (List.replicate x.length 0) (listsT m x))), max (score m (vals (List.replicate x.length 0) (listsT m x))) (score m (vals (List.replicate x.length 0) (listsT m x)))))]
  · rw [hr, ends_fold, hz, List.foldl_cons]; rfl
  · dsimp only
    rw [condT, bindS]
    dsimp only
    rw [condT, hvals, bindS, hsc, bindS, condT, bindS, bindS]
theorem p_lists (hm : modelOk m = true) (hlen : (x.length : Int) = m.traits) : ∃ r, loopM (S := (List (List Int)) × Int) (R := ((List (List Int))) ⊕ (Span × Int)) (fun (x25, x26) => cond (decide (x26 < (x.length : Int))) (Option.bind (Option.bind (ixo x x26) fun y28 => Option.bind (P.ref06_within y28.lo 0 1000000) fun z36 => cond (!z36) (some true) (Option.bind (ixo x x26) fun y44 => Option.bind (ixo x x26) fun y52 => Option.bind (P.ref06_within y44.hi y52.lo 1000000) fun z60 => some (!z60))) fun x67 => cond x67 (some (.inr (.inr ((Span.mk 0 0), 61)))) (Option.bind (ixo x x26) fun y72 => Option.bind (P.ref06_steps m x26 y72) fun z83 => Option.bind (appo 24 x25 ([z83] : List (List Int))) fun l103 => Option.bind (chk .i64 (x26 + 1)) fun n114 => some (.inl (l103, n114)))) (some (.inr (.inl x25)))) ([], 0) = some r ∧ r = if x.all okSpan then .inl (listsT m x) else .inr (Span.mk 0 0, 61) := by
  have hmo := modelOk_iff.1 hm
  have hx5 : x.length ≤ 5 := by omega
  refine loop_inv2 (fun t : List (List Int) × Int => ∃ n : Nat, t.2 = n ∧ n ≤ x.length ∧ t.1 = (listsT m x).take n ∧ ∀ s ∈ x.take n, okSpan s = true) (fun t => x.length - t.2.toNat) (fun ⟨l, i⟩ ⟨n, g1, g2, g3, g4⟩ => ?_) ([], 0) ⟨0, rfl, Nat.zero_le _, by simp, by simp⟩
  simp only at g1 g3
  subst g1
  by_cases hn : n < x.length
  · have hy : x[n]? = some x[n] := List.getElem?_eq_getElem hn
    have hw1 := p_within x[n].lo 0 1000000
    have hw2 := p_within x[n].hi x[n].lo 1000000
    have hbad : okSpan x[n] = false → x.all okSpan = false := fun h => by
      rw [List.all_eq_false]; exact ⟨x[n], List.getElem_mem hn, by rw [h]; simp⟩
    by_cases e1 : 0 ≤ x[n].lo ∧ x[n].lo ≤ 1000000
    · rw [decide_eq_true e1] at hw1
      by_cases e2 : x[n].lo ≤ x[n].hi ∧ x[n].hi ≤ 1000000
      · rw [decide_eq_true e2] at hw2
        left
        have hg : okSpan x[n] = true := decide_eq_true (by omega)
        have hs := p_steps m n x[n] hm (by omega)
        have hll : l.length ≤ 5 := by rw [g3, List.length_take, listsT_len]; omega
        refine ⟨(l ++ [stepsS m n x[n]], ((n : Int) + 1)), by dsimp only; rw [lt_cast hn, condT, ixo_at hy, bindS, hw1, bindS, notT, condF, bindS, bindS, hw2, bindS, notT, bindS, condF, bindS, hs, bindS, appo_ok (by simp only [List.length_singleton]; omega) (by simp only [List.length_singleton]; omega), bindS, chk_nat (by omega), bindS], ⟨n + 1, by simp, hn, ?_, fun s hs => ?_⟩, by simp only; omega⟩
        · show l ++ [stepsS m n x[n]] = _
          rw [List.take_add_one, listsT_get hy, g3]; rfl
        · rw [List.take_add_one, hy] at hs
          rcases List.mem_append.1 hs with h | h
          · exact g4 s h
          · have : s = x[n] := by simpa using h
            rw [this]; exact hg
      · rw [decide_eq_false e2] at hw2
        right
        have hg : okSpan x[n] = false := decide_eq_false (by omega)
        refine ⟨.inr (Span.mk 0 0, 61), by dsimp only; rw [lt_cast hn, condT, ixo_at hy, bindS, hw1, bindS, notT, condF, bindS, bindS, hw2, bindS, notF, bindS, condT], ?_⟩
        rw [hbad hg]; rfl
    · rw [decide_eq_false e1] at hw1
      right
      have hg : okSpan x[n] = false := decide_eq_false (by omega)
      refine ⟨.inr (Span.mk 0 0, 61), by dsimp only; rw [lt_cast hn, condT, ixo_at hy, bindS, hw1, bindS, notF, condT, bindS, condT], ?_⟩
      rw [hbad hg]; rfl
  · right
    have hne : n = x.length := by omega
    subst hne
    have hall : x.all okSpan = true := by
      rw [List.all_eq_true]; intro s hs; exact g4 s (by rw [List.take_length]; exact hs)
    refine ⟨.inl l, by dsimp only; rw [not_lt_cast, condF], ?_⟩
    rw [hall, g3, List.take_of_length_le (by rw [listsT_len]; omega)]; rfl
theorem p_between (hs : Small m) (hx : x.length ≤ 10) : P.ref06_Between m x = some (betweenS m x) := by
  unfold P.ref06_Between
  rw [show (Model.mk m.traits m.cards m.trees m.need) = m from rfl]
  rw [p_check m hs.cards hs.trees hs.scales hs.nodes, bindS]
  by_cases hm : modelOk m = true
  · have hc : check m = 0 := by unfold check; rw [if_pos hm]
    have e0 : (!decide (check m = 0)) = false := by rw [hc]; rfl
    rw [e0, condF]
    by_cases hlen : (x.length : Int) = m.traits
    · have e1 : (!decide ((x.length : Int) = m.traits)) = false := by rw [decide_eq_true hlen]; rfl
      rw [e1, condF]
      obtain ⟨r, h1, h2⟩ := p_lists hm hlen
      rw [h1, bindS, h2]
      by_cases hall : x.all okSpan = true
      · rw [if_pos hall, elimLS, mko_ok (by omega) (by omega), bindS, bindS]
        dsimp only
        obtain ⟨a', v', h3⟩ := p_first hm hlen hall
        rw [h3, bindS]
        unfold betweenS
        rw [if_neg (by rw [hm]; simp), if_neg (fun h => h hlen), if_pos hall]
      · rw [if_neg hall, elimRS]
        unfold betweenS
        rw [if_neg (by rw [hm]; simp), if_neg (fun h => h hlen), if_neg hall]
    · have e1 : (!decide ((x.length : Int) = m.traits)) = true := by rw [decide_eq_false hlen]; rfl
      rw [e1, condT]
      unfold betweenS
      rw [if_neg (by rw [hm]; simp), if_pos hlen]
  · have hm' : modelOk m = false := by simpa using hm
    have hc : check m = 60 := by unfold check; rw [hm']; rfl
    have e0 : (!decide (check m = 0)) = true := by rw [hc]; rfl
    rw [e0, condT, hc]
    unfold betweenS
    rw [if_pos hm']
end
theorem p_ScoreSpans (m : Model) (x : List Span) : P.law06_ScoreSpans m x = some true := by
  unfold P.law06_ScoreSpans
  rw [show (Model.mk m.traits m.cards m.trees m.need) = m from rfl]
  rw [p_great, bindS]
  by_cases hg : great m = true
  · rw [hg, condT, bindS, condT]
  · have hg' : great m = false := by simpa using hg
    rw [hg', condF, bindS]
    by_cases hx : 10 < (x.length : Int)
    · rw [decide_eq_true hx, condT]
    · have hx' : x.length ≤ 10 := by omega
      have hs := small_of hg'
      have hb : P.score_Between m x = some (betweenS m x) := by
        unfold P.score_Between; rw [if_pos ⟨hs, hx'⟩]
      rw [decide_eq_false hx, condF, p_Twin m hs, bindS, appo_ok (by simp; omega) (by simp; omega), bindS, List.nil_append]
      rw [show (Model.mk m.traits m.cards m.trees m.need) = m from rfl]
      have h2 := p_between hs hx'
      generalize betweenS m x = B at hb h2
      obtain ⟨c1, c2⟩ := B
      rw [hb, bindS]
      dsimp only
      rw [h2, bindS]
      dsimp only
      rw [p_Same m hs, bindS, decide_eq_true rfl, condT, decide_eq_true rfl, condT, bindS]
end S
end Go.Proofs.Ytecmlmngcnionaa
