/-
  Part RingShort 1 of the texts that the statement's proof stands on: what memory holds, how code is walked, what the functions reckon. In the order in which they build.
-/

import Derived.Test.YtdbogmmdogjhpaaRd9
set_option linter.unusedVariables false
set_option linter.unusedSectionVars false
set_option maxRecDepth 20000
set_option maxHeartbeats 1000000
set_option linter.unusedVariables false
set_option linter.unusedSimpArgs false
namespace Go.Sx
theorem slice_in {k : IntKind} {M : List Nat} {w : World} {cs : List Value} {xs : List Int} (h : (sliceE (intE k)).R M w cs xs) : (∀ x ∈ xs, InK k x) ∧ xs.length ≤ 9223372036854775807 := by
  obtain ⟨v, _, a, c, _, h1, h2, h3⟩ := h
  have hm : maxLen = 9223372036854775807 := rfl
  refine ⟨fun x hx => ?_, by omega⟩
  obtain ⟨i, hi, rfl⟩ := List.mem_iff_getElem.1 hx
  rcases h3 with h3 | ⟨b, o, _, _, _, hc⟩
  · subst h3; cases hi
  · obtain ⟨cs, hR, _⟩ := hc i hi
    exact hR.2
end Go.Sx
namespace Go.Proofs.Ytdbogmmdogjhpaa
open Go Go.Sx
open Go.Rx (ixA)
namespace S
theorem Pw.mono {N : Nat} {W : Nat → Nat → Int} {s t : Int} (hst : t ≤ s) {i k m : Nat} {p : List Nat} (h : Pw N W s i m p k) : Pw N W t i m p k := by
  induction h with
  | nil => exact .nil
  | cons h1 he ih => exact .cons ih ⟨he.1, he.2.1, Int.le_trans hst he.2.2⟩
theorem val_lex {N : Nat} {u : List Nat} {x y : Nat} (hyx : y < x) : ∀ (n : Nat) (R S : List Nat), R.length = n → S.length = n → (∀ z ∈ S, z < N) → val N (u ++ [y] ++ S) < val N (u ++ [x] ++ R) := by
  intro n
  induction n with
  | zero =>
    intro R S hR hS _
    have : R = [] := List.eq_nil_of_length_eq_zero hR
    have : S = [] := List.eq_nil_of_length_eq_zero hS
    subst R S
    rw [List.append_nil, List.append_nil, val_snoc, val_snoc]
    omega
  | succ n ih =>
    intro R S hR hS hz
    rcases List.eq_nil_or_concat R with e | ⟨R', c, e⟩
    · rw [e] at hR; cases hR
    rcases List.eq_nil_or_concat S with e2 | ⟨S', b, e2⟩
    · rw [e2] at hS; cases hS
    subst e e2
    rw [List.concat_eq_append] at *
    rw [List.length_append] at hR hS
    simp only [List.length_cons, List.length_nil] at hR hS
    rw [List.concat_eq_append] at *
    rw [← List.append_assoc, ← List.append_assoc]
    exact val_lt (hz b (by simp)) (ih R' S' (by omega) (by omega) fun z hz' => hz z (by simp [hz']))
theorem lex_lt {N : Nat} {i : Nat} {r o : List Nat} (hl : o.length = r.length) (ho : ∀ z ∈ o, z < N) (hv : val N (i :: r) ≤ val N (i :: o)) {t : Nat} (ht : t < r.length) (hto : t < o.length) (hp : r.take t = o.take t) (hne : r[t] ≠ o[t]) : r[t] < o[t] := by
  rcases Nat.lt_or_ge r[t] o[t] with e | e
  · exact e
  · have hlt : o[t] < r[t] := by omega
    have e1 : i :: r = (i :: r.take t) ++ [r[t]] ++ r.drop (t + 1) := by
      have : r = r.take t ++ (r[t] :: r.drop (t + 1)) := by rw [← List.drop_eq_getElem_cons ht, List.take_append_drop]
      calc i :: r = i :: (r.take t ++ (r[t] :: r.drop (t + 1))) := congrArg (i :: ·) this
        _ = _ := by simp
    have e2 : i :: o = (i :: r.take t) ++ [o[t]] ++ o.drop (t + 1) := by
      have : o = o.take t ++ (o[t] :: o.drop (t + 1)) := by rw [← List.drop_eq_getElem_cons hto, List.take_append_drop]
      calc i :: o = i :: (o.take t ++ (o[t] :: o.drop (t + 1))) := congrArg (i :: ·) this
        _ = _ := by rw [hp]; simp
    have := val_lex (N := N) (u := i :: r.take t) hlt (r.length - (t + 1)) (r.drop (t + 1)) (o.drop (t + 1)) (by rw [List.length_drop]) (by rw [List.length_drop]; omega) fun z hz => ho z (List.mem_of_mem_drop hz)
    rw [← e1, ← e2] at this
    omega
end S
open S
section
variable {h : Hunt} {l : List Filing} (v : Vd h l)
include v
theorem why_eq {i : Nat} (hi : i < l.length) : Ret (P.ring_Why h l (idA l i) (idA l i)) (· = ([], 2)) := by
  refine (r_ringWhy h (vd_len v) (vd_pl v) _ _).mono fun r hr => ?_
  rcases hr with ⟨c, _⟩ | ⟨_, c2, hr⟩ | ⟨_, i', k', c2, _⟩
  · exact absurd (check_iff.2 v) c
  · rw [hr, two_same v hi]
  · rw [two_same v hi] at c2
    simp at c2
end
theorem p_RingShort (h : Hunt) (l : List Filing) (one two : Int) (by_ : List Int) (b2 : InK .u8 one) (b3 : InK .u8 two) (b4 : (∀ x ∈ by_, InK .u8 x) ∧ by_.length ≤ 9223372036854775807) : P.law08_RingShort h l one two by_ = some true := by
  have b2 := InK.u8.1 b2
  have b3 := InK.u8.1 b3
  obtain ⟨b4, hbl⟩ := b4
  apply Ret.yes
  unfold P.law08_RingShort
  refine Ret.bindM r_alive ?_
  rintro _ rfl
  refine Ret.bindM (Q' := fun b => b = false → Vd h l ∧ 0 < l.length) (Ret.bindM (r_ready h l 1) fun b hb => Ret.cond (fun _ => Ret.ok (fun e => by cases e)) (fun h1 => Ret.cond (fun _ => Ret.ok (fun e => by cases e)) (fun h2 => Ret.ok fun _ => ⟨(hb (by simpa using h1)).1, by have := of_decide_eq_false h2; omega⟩))) fun b hb => ?_
  refine Ret.cond (fun _ => Ret.ok rfl) (fun hg => ?_)
  obtain ⟨v, h0⟩ := hb hg
  have hlen := v.len
  refine r_pick2 h0 (by omega) fun i hi => r_pick2 h0 (by omega) fun j hj => ?_
  rw [id_idA v hi, id_idA v hj]
  by_cases hij : i = j
  · subst hij
    refine Ret.bindM (why_eq v hi) ?_
    rintro _ rfl
    exact Ret.condT rfl <| Ret.bindM (Q' := fun b => b = true) (Ret.condT rfl <| Ret.condT rfl <| Ret.condT (by simp) <| Ret.ok rfl) fun b hb => Ret.ok hb
  have hidne : ¬ idA l i = idA l j := fun e => hij (idA_inj v hi hj e)
  refine Ret.bindM (why_ok v hi hj hij) ?_
  rintro ⟨ts, k⟩ hwhy
  rcases hwhy with ⟨hno, hr⟩ | ⟨s0, p, hW, ⟨m, hD, hP, hmin⟩, hr⟩
  · cases hr
    exact Ret.condT rfl <| Ret.bindM (Q' := fun b => b = true) (Ret.condT rfl <| Ret.condF rfl <| Ret.ok rfl) fun b hb => Ret.ok hb
  cases hr
  dsimp only
  have hmN : m < l.length := hD.lt hi
  have hpl := hP.len
  obtain ⟨r, rfl⟩ : ∃ r, p = i :: r := by
    obtain ⟨x, h1, h2, _⟩ := hP.get 0 (by omega)
    have hx : x = i := h2.wk
    cases p with
    | nil => cases h1
    | cons y r => cases h1; exact ⟨r, by rw [hx]⟩
  have hrl : r.length = m := by simpa using hpl
  have hrN : ∀ x ∈ r, x < l.length := fun x hx => hP.mem hi x (List.mem_cons_of_mem _ hx)
  have htl : (ties h l (i :: r)).length = m := by rw [ties_len, hpl]; omega
  have hs0 := hW.1
  have hs6 := hW.2.1
  refine Ret.condF rfl ?_
  refine Ret.bindM (Q' := fun x => x = (s0, r.map (idA l))) (Ret.upto m (fun t (st : Int × List Int × Int) => ∃ a, (i :: r)[t]? = some a ∧ st.2.2 = t ∧ s0 ≤ st.1 ∧ st.1 ≤ 6001 ∧ Wk l.length (w h l) st.1 i t a ∧ st.2.1 = (r.take t).map (idA l)) ⟨i, rfl, rfl, by dsimp only; omega, Int.le_refl _, rfl, rfl⟩ ?_ ?_) ?_
  · rintro t ht ⟨le, _, _⟩ ⟨a, ha, rfl, k1, k2, k3, rfl⟩
    obtain ⟨a', c, ha', hc, he⟩ := hP.edge t (by omega)
    rw [ha] at ha'; cases ha'
    have hal : a < l.length := he.1
    have hcl : c < l.length := he.2.1
    have hws := he.2.2
    have htr : t < r.length := by omega
    have hrc : r[t] = c := by
      have : r[t]? = some c := hc
      rw [List.getElem?_eq_getElem htr] at this
      exact Option.some.inj this
    dsimp only at k1 k2 k3 ⊢
    refine Ret.condT (by rw [htl]; exact lt_cast ht) <| Ret.bind <| Ret.ixo (ties_get ha hc) <| Ret.bind <| Ret.appo (by simp; omega) (by simp; omega) <| Ret.bind <| Ret.chk (by omega) <| Ret.next ⟨c, hc, rfl, ?_, ?_, ?_, ?_⟩
    · show s0 ≤ min le (w h l a c); omega
    · show min le (w h l a c) ≤ 6001; omega
    · exact ⟨a, k3.mono (show min le (w h l a c) ≤ le by omega), hal, hcl, show min le (w h l a c) ≤ w h l a c by omega⟩
    · show (r.take t).map (idA l) ++ [idA l c] = _
      rw [take_succ htr, List.map_append, hrc]; rfl
  · rintro ⟨le, _, _⟩ ⟨a, ha, rfl, k1, k2, k3, rfl⟩
    dsimp only at k1 k2 k3 ⊢
    refine Ret.condF (by rw [htl]; exact not_lt_cast) <| Ret.done ?_
    have e : a = j := by
      have := hP.last
      rw [ha] at this; cases this; rfl
    subst e
    have := (wide_iff hW).1 ⟨m, k3⟩
    have e : le = s0 := by omega
    rw [e, ← hrl, List.take_length]
  rintro _ rfl
  dsimp only
  refine Ret.bindM (Q' := fun x => ∃ O : List Nat, x = O.map (idA l) ∧ (∀ a ∈ O, a < l.length) ∧ O.length ≤ 24) (Ret.upto by_.length (fun t (st : Int × List Int) => ∃ O : List Nat, st = ((t : Int), O.map (idA l)) ∧ (∀ a ∈ O, a < l.length) ∧ O.length ≤ 24) ⟨[], rfl, (fun a e => by cases e), Nat.zero_le _⟩ ?_ ?_) ?_
  · rintro t ht _ ⟨O, rfl, hO, hOl⟩
    have hy := InK.u8.1 (b4 _ (List.getElem_mem ht))
    dsimp only
    refine Ret.condT (lt_cast ht) <| Ret.bind <| ixR ht <| Ret.cond (fun _ => Ret.done ⟨O, rfl, hO, hOl⟩) (fun hc => ?_)
    have hc : O.length < 24 := by have := of_decide_eq_false hc; rw [List.length_map] at this; omega
    refine r_pick2 h0 (by omega) fun c hcl => ?_
    rw [id_idA v hcl]
    refine Ret.bindM (Q' := fun _ => True) (Ret.cond (fun _ => Ret.ok trivial) (fun _ => Ret.ok trivial)) fun b _ => ?_
    refine Ret.bindM (Q' := fun x => ∃ O : List Nat, x = O.map (idA l) ∧ (∀ a ∈ O, a < l.length) ∧ O.length ≤ 24) (Ret.cond (fun _ => Ret.bind <| Ret.appo (by simp; omega) (by simp; omega) <| Ret.ok ⟨O ++ [c], by rw [List.map_append]; rfl, fun a ha => ?_, by rw [List.length_append]; simp; omega⟩) (fun _ => Ret.ok ⟨O, rfl, hO, hOl⟩)) ?_
    · rcases List.mem_append.1 ha with ha | ha
      · exact hO a ha
      · rw [List.mem_singleton.1 ha]; exact hcl
    · rintro _ ⟨O, rfl, hO, hOl⟩
      exact Ret.bind <| Ret.chk (by omega) <| Ret.next ⟨O, rfl, hO, hOl⟩
  · rintro _ ⟨O, rfl, hO, hOl⟩
    exact Ret.condF not_lt_cast <| Ret.done ⟨O, rfl, hO, hOl⟩
  rintro _ ⟨X, rfl, hX, hXl⟩
  refine Ret.bind <| Ret.appo (by simp; omega) (by simp; omega) ?_
  obtain ⟨O, hOe⟩ : ∃ O, O = X ++ [j] := ⟨_, rfl⟩
  have e1 : X.map (idA l) ++ [idA l j] = O.map (idA l) := by rw [hOe, List.map_append]; rfl
  have hON : ∀ a ∈ O, a < l.length := fun a ha => by
    rw [hOe] at ha
    rcases List.mem_append.1 ha with ha | ha
    · exact hX a ha
    · rw [List.mem_singleton.1 ha]; exact hj
  have hOl : O.length ≤ 25 := by rw [hOe, List.length_append]; simp; omega
  have hO0 : 0 < O.length := by rw [hOe, List.length_append]; simp
  rw [e1]
  refine Ret.bindM (Q' := fun x => x = Sum.inr true ∨ ∃ le, x = Sum.inl le ∧ Pw l.length (w h l) le i O.length (i :: O) j) (Ret.upto O.length (fun t (st : Int × Int × Int) => ∃ a, st.1 = t ∧ a < l.length ∧ st.2.2 = idA l a ∧ Pw l.length (w h l) st.2.1 i t (i :: O.take t) a) ⟨i, rfl, hi, rfl, .nil⟩ ?_ ?_) ?_
  · rintro t ht ⟨_, le, _⟩ ⟨a, rfl, ha, rfl, hPw⟩
    have hcl : O[t] < l.length := hON _ (List.getElem_mem ht)
    dsimp only at hPw ⊢
    refine Ret.condT (by rw [List.length_map]; exact lt_cast ht) <| Ret.bind <| Ret.ixo (i := t) (y := idA l O[t]) (by rw [List.getElem?_map, List.getElem?_eq_getElem ht]; rfl) ?_
    refine Ret.bindM (r_ringWeight h (vd_len v) (vd_pl v) (idA l a) (idA l O[t])) ?_
    rintro ⟨w1, f1⟩ hw1
    by_cases hac : a = O[t]
    · rw [hac, weight_eq v hcl] at hw1
      cases hw1
      rw [hac]
      exact Ret.condT rfl <| Ret.bindM (Q' := fun b => b = true) (Ret.condT rfl <| Ret.condT rfl <| Ret.ok (decide_eq_true rfl)) fun b hb => Ret.done (.inl (by rw [hb]))
    · rw [weight_ok v ha hcl hac] at hw1
      cases hw1
      refine Ret.condF rfl <| Ret.bind <| Ret.chk (by omega) <| Ret.next ⟨O[t], rfl, hcl, rfl, ?_⟩
      have : i :: O.take (t + 1) = (i :: O.take t) ++ [O[t]] := by rw [take_succ ht]; rfl
      rw [this]
      exact .cons (hPw.mono (show min le (w h l a O[t]) ≤ le by omega)) ⟨ha, hcl, show min le (w h l a O[t]) ≤ w h l a O[t] by omega⟩
  · rintro ⟨_, le, _⟩ ⟨a, rfl, ha, rfl, hPw⟩
    dsimp only at hPw ⊢
    rw [List.take_length] at hPw
    refine Ret.condF (by rw [List.length_map]; exact not_lt_cast) <| Ret.done (.inr ⟨le, rfl, ?_⟩)
    have e : a = j := by
      have := hPw.last
      have e2 : (i :: O)[O.length]? = O[O.length - 1]? := by
        obtain ⟨n, hn⟩ : ∃ n, O.length = n + 1 := ⟨O.length - 1, by omega⟩
        rw [hn]; rfl
      rw [e2] at this
      have e3 : O[O.length - 1]? = some j := by rw [hOe]; simp
      rw [e3] at this
      exact (Option.some.inj this).symm
    rw [← e]; exact hPw
  rintro _ (rfl | ⟨le, rfl, hPw⟩)
  · exact Ret.elimR <| Ret.ok rfl
  refine Ret.elimL ?_
  have hle := (wide_iff hW).1 (⟨_, hPw.wk⟩ : RC h l le i j)
  refine Ret.condF (decide_eq_false (by omega)) ?_
  refine Ret.bindM (Q' := fun b => b = false → le = s0 ∧ O.length ≤ m) (Ret.cond (fun _ => Ret.ok (fun e => by cases e)) (fun c1 => Ret.ok fun c2 => ?_)) fun b hb => ?_
  · have c1 := of_decide_eq_false c1
    have c2 := of_decide_eq_false c2
    rw [List.length_map, List.length_map] at c2
    exact ⟨by omega, by omega⟩
  refine Ret.cond (fun _ => Ret.ok rfl) (fun hc => ?_)
  obtain ⟨rfl, hOm⟩ := hb hc
  have hmO : m ≤ O.length := by
    rcases Nat.lt_or_ge O.length m with e | e
    · exact absurd hPw.wk (hD.2 _ e)
    · exact e
  have hmm : O.length = m := by omega
  refine Ret.condF (decide_eq_false (by rw [List.length_map, List.length_map]; omega)) ?_
  have hval := hmin (i :: O) (hmm ▸ hPw)
  refine Ret.bindM (Q' := fun x => x = Sum.inl () ∨ x = Sum.inr true) (Ret.upto m (fun t (x : Int) => x = t ∧ r.take t = O.take t) ⟨rfl, rfl⟩ ?_ ?_) ?_
  · rintro t ht _ ⟨rfl, hI⟩
    have htr : t < r.length := by omega
    have htO : t < O.length := by omega
    have g1 : (r.map (idA l))[t]? = some (idA l r[t]) := by rw [List.getElem?_map, List.getElem?_eq_getElem htr]; rfl
    have g2 : (O.map (idA l))[t]? = some (idA l O[t]) := by rw [List.getElem?_map, List.getElem?_eq_getElem htO]; rfl
    refine Ret.condT (by rw [List.length_map]; exact lt_cast htr) <| Ret.bind <| Ret.ixo g1 <| Ret.bind <| Ret.ixo g2 <| Ret.cond (fun c => ?_) (fun c => ?_)
    · have hne : r[t] ≠ O[t] := fun e => by rw [e] at c; simp at c
      refine Ret.bindM (Q' := fun b => b = true) (Ret.condT rfl <| Ret.bind <| Ret.ixo g1 <| Ret.bind <| Ret.ixo g2 <| Ret.ok (decide_eq_true ?_)) fun b hb => Ret.done (.inr (by rw [hb]))
      exact idA_lt v (lex_lt (by omega) hON hval htr htO hI hne) (hON _ (List.getElem_mem htO))
    · have e : idA l r[t] = idA l O[t] := by simpa using c
      have e := idA_inj v (hrN _ (List.getElem_mem htr)) (hON _ (List.getElem_mem htO)) e
      exact Ret.bind <| Ret.chk (by omega) <| Ret.next ⟨rfl, take_eq htr htO hI e⟩
  · rintro _ ⟨rfl, hI⟩
    exact Ret.condF (by rw [List.length_map, hrl]; exact not_lt_cast) <| Ret.done (.inl rfl)
  · rintro _ (rfl | rfl)
    · exact Ret.elimL <| Ret.ok rfl
    · exact Ret.elimR <| Ret.ok rfl
end Go.Proofs.Ytdbogmmdogjhpaa
