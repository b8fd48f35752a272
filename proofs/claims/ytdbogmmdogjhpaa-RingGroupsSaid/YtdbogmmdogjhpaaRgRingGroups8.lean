/-
  Part RingGroups 8 of the texts that the statement's proof stands on: what memory holds, how code is walked, what the functions reckon. In the order in which they build.
-/

import Derived.Test.YtdbogmmdogjhpaaRgRingGroups7
set_option linter.unusedVariables false
set_option linter.unusedSectionVars false
set_option maxRecDepth 20000
set_option maxHeartbeats 1000000
set_option linter.unusedVariables false
set_option linter.unusedSimpArgs false
namespace Go.Sx
/-- A loop that counts up to N. -/
theorem Ret.upto {S R : Type} {body : S → Option (S ⊕ R)} {s0 : S} {Q : R → Prop} (N : Nat) (I : Nat → S → Prop) (h0 : I 0 s0) (step : ∀ n < N, ∀ s, I n s → Ret (body s) (Nxt (I (n + 1)) Q)) (fin : ∀ s, I N s → Ret (body s) (Nxt (fun _ => False) Q)) : Ret (loopM body s0) Q := by
  have key : ∀ (m n : Nat) (s : S), n + m = N → I n s → Ret (loopM body s) Q := by
    intro m
    induction m with
    | zero =>
      intro n s hn hs
      have : n = N := by omega
      subst this
      obtain ⟨r, h1, h2⟩ := fin s hs
      cases r with
      | inl s' => exact h2.elim
      | inr r => exact ⟨r, loopM_end h1, h2⟩
    | succ m ih =>
      intro n s hn hs
      obtain ⟨r, h1, h2⟩ := step n (by omega) s hs
      cases r with
      | inl s' => rw [loopM_go h1]; exact ih (n + 1) s' (by omega) h2
      | inr r => exact ⟨r, loopM_end h1, h2⟩
  exact key N 0 s0 (by omega) h0
theorem Ret.bindM {α β : Type} {o : Option α} {K : α → Option β} {Q' : α → Prop} {Q : β → Prop} (h : Ret o Q') (hk : ∀ a, Q' a → Ret (K a) Q) : Ret (Option.bind o K) Q := Ret.bind (h.mono hk)
theorem Ret.quoO {x y : Int} {Q : Int → Prop} (h0 : 0 ≤ x) (h1 : 0 < y) (h2 : x ≤ 9223372036854775807) (q : Q (x / y)) : Ret (quoO .i64 x y) Q := ⟨_, by unfold Sx.quoO; rw [if_pos ⟨h0, h1, InK.i64.2 (by omega)⟩], q⟩
end Go.Sx
namespace Go.Proofs.Ytdbogmmdogjhpaa
open Go Go.Sx
theorem drop_cons {α : Type} {l : List α} {n : Nat} (h : n < l.length) : l.drop n = l[n] :: l.drop (n + 1) := List.drop_eq_getElem_cons h
theorem take_succ {α : Type} {l : List α} {n : Nat} (h : n < l.length) : l.take (n + 1) = l.take n ++ [l[n]] := by
  rw [List.take_add_one, List.getElem?_eq_getElem h]; rfl
theorem ixR {α : Type} {l : List α} {n : Nat} {Q : α → Prop} (h : n < l.length) (q : Q l[n]) : Ret (ixo l (n : Int)) Q := Ret.ixo (List.getElem?_eq_getElem h) q
theorem ixP {α : Type} {l : List α} {n : Nat} {Q : α → Prop} (h : n < l.length) (h0 : 0 < n) (q : Q l[n - 1]) : Ret (ixo l ((n : Int) - 1)) Q := by
  have : ((n : Int) - 1) = ((n - 1 : Nat) : Int) := by omega
  rw [this]; exact ixR (by omega) q
namespace S
def inB (lo hi x : Int) : Bool := decide (lo ≤ x ∧ x ≤ hi)
/-- Numbers from 0 to MaxId, each above the one before. -/
def rB : Int → List Int → Bool
  | _, [] => true
  | last, x :: xs => inB (last + 1) 999999 x && rB x xs
def gB (f : Filing) : Bool := inB 0 100000 f.day && decide (f.parts.length ≤ 6) && rB (-1) f.parts
def fB : Int → List Filing → Bool
  | _, [] => true
  | last, f :: fs => inB (last + 1) 999999 f.id && gB f && fB f.id fs
def hB (h : Hunt) : Bool := inB 0 100000 h.window && inB 2 24 h.common && inB 2 24 h.size
def check (h : Hunt) (l : List Filing) : Int := if hB h then (if decide (l.length ≤ 24) && fB (-1) l then 0 else 81) else 80
def idx (xs : List Int) (v : Int) : Int := if v ∈ xs then (xs.idxOf v : Nat) else -1
def great (l : List Filing) : Bool := decide (30 < l.length) || l.any fun f => decide (20 < f.parts.length)
end S
open S
/-! Loops over lists: what is found. -/
theorem r_Great (l : List Filing) : Ret (P.ref08_Great l) (· = great l) := by
  unfold P.ref08_Great
  refine Ret.cond (fun h => Ret.ok ?_) (fun h => ?_)
  · have := of_decide_eq_true h
    simp [great]; left; omega
  have h30 : ¬ 30 < l.length := by have := of_decide_eq_false h; omega
  refine Ret.bindM (Q' := fun r => r = if l.any (fun f => decide (20 < f.parts.length)) then Sum.inr true else Sum.inl ()) (Ret.upto l.length (fun n (s : Int) => s = n ∧ (l.take n).any (fun f => decide (20 < f.parts.length)) = false) ⟨rfl, by simp⟩ ?_ ?_) ?_
  · rintro n hn s ⟨rfl, hI⟩
    refine Ret.condT (lt_cast hn) (Ret.bind (ixR hn ?_))
    refine Ret.cond (fun h => Ret.done ?_) (fun h => Ret.bind (Ret.chk (by omega) (Ret.next ⟨rfl, ?_⟩)))
    · have := of_decide_eq_true h
      rw [if_pos]
      exact List.any_eq_true.2 ⟨l[n], List.getElem_mem hn, decide_eq_true (by omega)⟩
    · rw [take_succ hn, List.any_append, hI]
      have := of_decide_eq_false h
      simp; omega
  · rintro s ⟨rfl, hI⟩
    rw [List.take_length] at hI
    exact Ret.condF not_lt_cast (Ret.done (by rw [hI]; rfl))
  · rintro r rfl
    simp only [great, h30, decide_false, Bool.false_or]
    cases l.any (fun f => decide (20 < f.parts.length)) with
    | true => exact Ret.ok rfl
    | false => exact Ret.ok rfl
theorem great_out {l : List Filing} (h : great l = false) : l.length ≤ 30 ∧ ∀ f ∈ l, f.parts.length ≤ 20 := by
  simp only [great, Bool.or_eq_false_iff, decide_eq_false_iff_not, List.any_eq_false, decide_eq_true_eq] at h
  exact ⟨by omega, fun f hf => by have := h.2 f hf; omega⟩
theorem r_Twin {l : List Filing} (hl : l.length ≤ 30) (hp : ∀ f ∈ l, f.parts.length ≤ 20) : Ret (P.ref08_Twin l) (· = l) := by
  unfold P.ref08_Twin
  refine Ret.bind (Ret.appo (by simp; omega) (by simp; omega) ?_)
  rw [List.nil_append]
  refine Ret.bindM (Q' := (· = l)) (Ret.upto l.length (fun n (s : Int × List Filing) => s = ((n : Int), l)) rfl ?_ ?_) fun r hr => Ret.ok hr
  · rintro n hn s rfl
    dsimp only
    have hpn := hp l[n] (List.getElem_mem hn)
    refine Ret.condT (lt_cast hn) (Ret.bind (ixR hn (Ret.bind (Ret.appo (by simp; omega) (by simp; omega) (Ret.bind (ixR hn (Ret.bind (Ret.seto hn (Ret.bind (Ret.chk (by omega) (Ret.next ?_)))))))))))
    rw [List.nil_append]
    show _ = (((n + 1 : Nat) : Int), l)
    congr 1
    exact List.set_getElem_self hn
  · rintro s rfl
    exact Ret.condF not_lt_cast (Ret.done rfl)
theorem r_IndexFunc {s : List Int} {f : Int → Option Bool} (g : Int → Bool) (hf : ∀ x ∈ s, Ret (f x) (· = g x)) (hs : s.length < 9223372036854775807) : Ret (P.slices_IndexFunc_73 s f) fun r => decide (0 ≤ r) = s.any g := by
  unfold P.slices_IndexFunc_73
  refine Ret.bindM (Q' := fun r => (∃ n : Nat, r = Sum.inr (n : Int) ∧ s.any g = true) ∨ (r = Sum.inl () ∧ s.any g = false)) (Ret.upto s.length (fun n (i : Int) => i = n ∧ (s.take n).any g = false) ⟨rfl, by simp⟩ ?_ ?_) ?_
  · rintro n hn i ⟨rfl, hI⟩
    refine Ret.condT (lt_cast hn) (Ret.bind (ixR hn (Ret.bindM (hf _ (List.getElem_mem hn)) ?_)))
    rintro _ rfl
    refine Ret.cond (fun h => Ret.done (.inl ⟨n, rfl, List.any_eq_true.2 ⟨_, List.getElem_mem hn, h⟩⟩)) (fun h => Ret.bind (Ret.chk (by omega) (Ret.next ⟨rfl, ?_⟩)))
    rw [take_succ hn, List.any_append, hI]
    simpa using h
  · rintro i ⟨rfl, hI⟩
    rw [List.take_length] at hI
    exact Ret.condF not_lt_cast (Ret.done (.inr ⟨rfl, hI⟩))
  · rintro r (⟨n, rfl, h⟩ | ⟨rfl, h⟩)
    · exact Ret.elimR (Ret.ok (by rw [h]; exact decide_eq_true (by omega)))
    · exact Ret.elimL (Ret.ok (by rw [h]; rfl))
theorem r_ContainsFunc {s : List Int} {f : Int → Option Bool} (g : Int → Bool) (hf : ∀ x ∈ s, Ret (f x) (· = g x)) (hs : s.length < 9223372036854775807) : Ret (P.slices_ContainsFunc_59 s f) (· = s.any g) :=
  Ret.bindM (r_IndexFunc g hf hs) fun r h => Ret.ok h
theorem r_in {lo hi : Int} {all : List Int} (hs : all.length < 9223372036854775807) : Ret (P.ring_in lo hi all) (· = all.all (inB lo hi)) := by
  unfold P.ring_in
  refine Ret.bindM (r_ContainsFunc (fun x => !inB lo hi x) (fun x _ => ?_) hs) ?_
  · unfold P.ring_in_in1
    refine Ret.bind (Ret.cond (fun h => Ret.ok (Ret.ok ?_)) (fun h => Ret.ok (Ret.ok ?_)))
    · have := of_decide_eq_true h
      simp only [inB, Bool.eq_not_of_ne]
      symm; rw [Bool.not_eq_true', decide_eq_false_iff_not]; omega
    · have := of_decide_eq_false h
      simp only [inB]
      rw [Bool.eq_iff_iff, Bool.not_eq_true', decide_eq_true_eq, decide_eq_false_iff_not]; omega
  · rintro r rfl
    refine Ret.ok ?_
    rw [List.any_eq_not_all_not]
    simp
theorem r_in1 {lo hi x : Int} {Q : Bool → Prop} (q : Q (inB lo hi x)) : Ret (P.ring_in lo hi [x]) Q := (r_in (by simp)).mono fun r h => by subst h; simpa using q
theorem r_rising {l : List Int} (hl : l.length < 9223372036854775807) : Ret (P.ring_rising l) (· = rB (-1) l) := by
  unfold P.ring_rising
  refine Ret.bindM (Q' := fun r => r = if rB (-1) l then Sum.inl () else Sum.inr false) (Ret.upto l.length (fun n (s : Int × Int) => s.2 = n ∧ (-1 ≤ s.1 ∧ s.1 ≤ 999999) ∧ rB (-1) l = rB s.1 (l.drop n)) ⟨rfl, by decide, by simp⟩ ?_ ?_) ?_
  · rintro n hn ⟨a, _⟩ ⟨rfl, ha, hI⟩
    dsimp only at ha hI ⊢
    rw [drop_cons hn] at hI
    refine Ret.condT (lt_cast hn) (Ret.bind (ixR hn (Ret.bind (Ret.chk (by omega) (Ret.bind (r_in1 ?_))))))
    cases hb : inB (a + 1) 999999 l[n] with
    | false =>
      refine Ret.condT rfl (Ret.done ?_)
      rw [hI, rB, hb]; rfl
    | true =>
      have hb2 := of_decide_eq_true (show decide _ = true from hb)
      refine Ret.condF rfl (Ret.bind (Ret.chk (by omega) (Ret.next ⟨rfl, by dsimp only; omega, ?_⟩)))
      rw [hI, rB, hb, Bool.true_and]
  · rintro ⟨a, _⟩ ⟨rfl, ha, hI⟩
    dsimp only at hI ⊢
    rw [List.drop_length] at hI
    exact Ret.condF not_lt_cast (Ret.done (by rw [hI]; rfl))
  · rintro r rfl
    cases rB (-1) l with
    | true => exact Ret.elimL (Ret.ok rfl)
    | false => exact Ret.elimR (Ret.ok rfl)
theorem fB_split : ∀ (last : Int) (l : List Filing), fB last l = (l.all gB && rB last (l.map (·.id)))
  | _, [] => rfl
  | last, f :: fs => by
    rw [fB, fB_split f.id fs, List.all_cons, List.map_cons, rB]
    cases inB (last + 1) 999999 f.id <;> cases gB f <;> cases fs.all gB <;> rfl
theorem r_ringCheck {h : Hunt} {l : List Filing} (hl : l.length ≤ 30) (hp : ∀ f ∈ l, f.parts.length ≤ 20) : Ret (P.ring_Check h l) (· = check h l) := by
  unfold P.ring_Check
  refine Ret.bindM (Q' := fun b => b = !hB h) ?_ ?_
  · refine Ret.bind (r_in1 ?_)
    cases hb : inB 0 100000 h.window with
    | false => exact Ret.condT rfl (Ret.ok (by simp [hB, hb]))
    | true => exact Ret.condF rfl (Ret.bind ((r_in (by simp)).mono fun r hr => Ret.ok (by rw [hr]; simp [hB, hb])))
  rintro _ rfl
  cases hh : hB h with
  | false => exact Ret.condT rfl (Ret.ok (by simp [check, hh]))
  | true =>
  refine Ret.condF rfl ?_
  simp only [check, hh, if_true]
  refine Ret.bindM (Q' := fun r => r = if l.all gB then Sum.inl (l.map (·.id)) else Sum.inr 81) (Ret.upto l.length (fun n (s : Int × List Int) => s = ((n : Int), (l.take n).map (·.id)) ∧ (l.take n).all gB = true) ⟨rfl, rfl⟩ ?_ ?_) ?_
  · rintro n hn _ ⟨rfl, hI⟩
    dsimp only
    have hpn := hp l[n] (List.getElem_mem hn)
    refine Ret.condT (lt_cast hn) (Ret.bind (ixR hn (Ret.bind (Ret.appo (by simp; omega) (by simp; omega) ?_))))
    refine Ret.bindM (Q' := fun b => b = !gB l[n]) ?_ ?_
    · refine Ret.bind (r_in1 ?_)
      cases hb : inB 0 100000 l[n].day with
      | false => exact Ret.condT rfl (Ret.ok (by simp [gB, hb]))
      | true =>
        refine Ret.condF rfl (Ret.cond (fun h6 => Ret.ok ?_) (fun h6 => Ret.bind ((r_rising (by omega)).mono fun r hr => Ret.ok ?_)))
        · have := of_decide_eq_true h6
          have h7 : ¬ l[n].parts.length ≤ 6 := by omega
          simp [gB, h7]
        · have := of_decide_eq_false h6
          have h7 : l[n].parts.length ≤ 6 := by omega
          subst hr
          simp [gB, hb, h7]
    rintro _ rfl
    cases hg : gB l[n] with
    | false =>
      refine Ret.condT rfl (Ret.done ?_)
      rw [if_neg]
      intro hall
      rw [List.all_eq_true] at hall
      rw [hall _ (List.getElem_mem hn)] at hg; cases hg
    | true =>
      refine Ret.condF rfl (Ret.bind (Ret.chk (by omega) (Ret.next ⟨?_, ?_⟩)))
      · rw [take_succ hn, List.map_append]; rfl
      · rw [take_succ hn, List.all_append, hI]; simp [hg]
  · rintro _ ⟨rfl, hI⟩
    dsimp only
    rw [List.take_length] at hI ⊢
    exact Ret.condF not_lt_cast (Ret.done (by rw [hI]; rfl))
  · rintro r rfl
    rw [fB_split]
    cases hg : l.all gB with
    | false => exact Ret.elimR (Ret.ok (by simp))
    | true =>
      refine Ret.elimL (Ret.bindM (Q' := fun b => b = !(decide (l.length ≤ 24) && rB (-1) (l.map (·.id)))) (Ret.cond (fun h24 => Ret.ok ?_) (fun h24 => Ret.bind ((r_rising (by simp; omega)).mono fun r hr => Ret.ok ?_))) ?_)
      · have := of_decide_eq_true h24
        have h7 : ¬ l.length ≤ 24 := by omega
        simp [h7]
      · have := of_decide_eq_false h24
        have h7 : l.length ≤ 24 := by omega
        simp [hr, h7]
      · rintro _ rfl
        cases hd : (decide (l.length ≤ 24) && rB (-1) (l.map (·.id))) with
        | false => exact Ret.condT rfl (Ret.ok (by simp [hd]))
        | true => exact Ret.condF rfl (Ret.ok (by simp [hd]))
theorem r_within (n lo hi : Int) : Ret (P.ref08_within n lo hi) (· = inB lo hi n) := by
  unfold P.ref08_within
  refine Ret.bind (Ret.cond (fun h => Ret.ok (Ret.ok ?_)) (fun h => Ret.ok (Ret.ok ?_)))
  · have := of_decide_eq_true h; simp [inB, this]
  · have := of_decide_eq_false h; simp [inB, this]
theorem r_within1 {n lo hi : Int} {Q : Bool → Prop} (q : Q (inB lo hi n)) : Ret (P.ref08_within n lo hi) Q := (r_within n lo hi).mono fun r h => by subst h; exact q
/-- What was before. -/
def prv (xs : List Int) (n : Nat) : Int := if n = 0 then -1 else xs.getD (n - 1) (-1)
theorem prv_succ {xs : List Int} {n : Nat} (h : n < xs.length) : prv xs (n + 1) = xs[n] := by simp [prv, h]
theorem rB_le {last : Int} {x : Int} : inB (last + 1) 999999 x = true → x ≤ 999999 := fun h => (of_decide_eq_true (show decide _ = true from h)).2
theorem r_refCheck {h : Hunt} {l : List Filing} (hl : l.length ≤ 30) (hp : ∀ f ∈ l, f.parts.length ≤ 20) : Ret (P.ref08_Check h l) (· = check h l) := by
  unfold P.ref08_Check
  refine Ret.bindM (Q' := fun b => b = !hB h) ?_ ?_
  · refine Ret.bind (r_within1 ?_)
    cases hb : inB 0 100000 h.window with
    | false => exact Ret.condT rfl (Ret.ok (by simp [hB, hb]))
    | true =>
      refine Ret.condF rfl (Ret.bind (r_within1 ?_))
      cases hc : inB 2 24 h.common with
      | false => exact Ret.condT rfl (Ret.ok (by simp [hB, hc]))
      | true => exact Ret.condF rfl (Ret.bind (r_within1 (Ret.ok (by simp [hB, hb, hc]))))
  rintro _ rfl
  cases hh : hB h with
  | false => exact Ret.condT rfl (Ret.ok (by simp [check, hh]))
  | true =>
  refine Ret.condF rfl ?_
  simp only [check, hh, if_true]
  refine Ret.cond (fun h24 => Ret.ok ?_) (fun h24 => ?_)
  · have := of_decide_eq_true h24
    have h7 : ¬ l.length ≤ 24 := by omega
    simp [h7]
  have h7 : l.length ≤ 24 := by have := of_decide_eq_false h24; omega
  simp only [h7, decide_true, Bool.true_and]
  refine Ret.bindM (Q' := fun r => r = if fB (-1) l then Sum.inl () else Sum.inr 81) (Ret.upto l.length (fun n (s : Int) => s = (n : Int) ∧ -1 ≤ prv (l.map (·.id)) n ∧ fB (-1) l = fB (prv (l.map (·.id)) n) (l.drop n)) ⟨rfl, by simp [prv], by simp [prv]⟩ ?_ ?_) ?_
  · rintro n hn _ ⟨rfl, hq, hI⟩
    have hpn := hp l[n] (List.getElem_mem hn)
    rw [drop_cons hn, fB] at hI
    have hnx : prv (l.map (·.id)) (n + 1) = l[n].id := by rw [prv_succ (by simpa using hn)]; simp
    have hqq : 0 < n → prv (l.map (·.id)) n = l[n - 1].id := fun h0 => by
      obtain ⟨m, rfl⟩ : ∃ m, n = m + 1 := ⟨n - 1, by omega⟩
      rw [prv_succ (by simp; omega)]; simp
    have hq0 : n = 0 → prv (l.map (·.id)) n = -1 := fun h => by simp [prv, h]
    generalize prv (l.map (·.id)) n = q at *
    refine Ret.condT (lt_cast hn) (Ret.bind (ixR hn ?_))
    refine Ret.bindM (Q' := fun b => b = !(inB (q + 1) 999999 l[n].id && (inB 0 100000 l[n].day && decide (l[n].parts.length ≤ 6)))) ?_ ?_
    · have e1 : inB 0 100000 l[n].day = false → ((!(inB 0 100000 l[n].day && decide (l[n].parts.length ≤ 6))) = true) := fun h => by simp [h]
      have e2 : inB 0 100000 l[n].day = true → (decide (6 < (l[n].parts.length : Int)) = !(inB 0 100000 l[n].day && decide (l[n].parts.length ≤ 6))) := fun h => by
        rw [h, Bool.true_and, Bool.eq_iff_iff, Bool.not_eq_true', decide_eq_true_eq, decide_eq_false_iff_not]; omega
      refine Ret.bind (r_within1 ?_)
      cases hb : inB 0 999999 l[n].id with
      | false =>
        refine Ret.condT rfl (Ret.ok ?_)
        have h1 : inB (q + 1) 999999 l[n].id = false := by
          simp only [inB, decide_eq_false_iff_not] at hb ⊢; omega
        simp [h1]
      | true =>
        have hb := of_decide_eq_true (show decide _ = true from hb)
        refine Ret.condF rfl (Ret.cond (fun h0 => ?_) (fun h0 => ?_))
        · have h0 : 0 < n := by have := of_decide_eq_true h0; omega
          refine Ret.bind (Ret.chk (by omega) (Ret.bind (ixP hn h0 (Ret.cond (fun hle => Ret.ok ?_) (fun hle => ?_)))))
          · have := of_decide_eq_true hle
            have h1 : inB (q + 1) 999999 l[n].id = false := by
              have := hqq h0
              simp only [inB, decide_eq_false_iff_not]; omega
            simp [h1]
          · have hle := of_decide_eq_false hle
            have h1 : inB (q + 1) 999999 l[n].id = true := by
              have := hqq h0
              simp only [inB, decide_eq_true_eq]; omega
            rw [h1, Bool.true_and]
            refine Ret.bind (r_within1 ?_)
            cases hd : inB 0 100000 l[n].day with
            | false => exact Ret.condT rfl (Ret.ok (by simp))
            | true => exact Ret.condF rfl (Ret.ok (by rw [← hd]; exact e2 hd))
        · have h0 : n = 0 := by have := of_decide_eq_false h0; omega
          have h1 : inB (q + 1) 999999 l[n].id = true := by
            have := hq0 h0
            simp only [inB, decide_eq_true_eq]; omega
          rw [h1, Bool.true_and]
          refine Ret.bind (r_within1 ?_)
          cases hd : inB 0 100000 l[n].day with
          | false => exact Ret.condT rfl (Ret.ok (by simp))
          | true => exact Ret.condF rfl (Ret.ok (by rw [← hd]; exact e2 hd))
    rintro _ rfl
    cases ha : (inB (q + 1) 999999 l[n].id && (inB 0 100000 l[n].day && decide (l[n].parts.length ≤ 6))) with
    | false =>
      refine Ret.condT rfl (Ret.done ?_)
      rw [hI, if_neg]
      rw [gB]
      intro hx
      simp only [Bool.and_eq_true] at hx
      rw [hx.1.1, hx.1.2.1.1, hx.1.2.1.2] at ha; cases ha
    | true =>
      simp only [Bool.and_eq_true] at ha
      have hid := rB_le ha.1
      refine Ret.condF rfl ?_
      refine Ret.bindM (Q' := fun r => r = if rB (-1) l[n].parts then Sum.inl () else Sum.inr 81) (Ret.upto l[n].parts.length (fun k (s : Int) => s = (k : Int) ∧ -1 ≤ prv l[n].parts k ∧ rB (-1) l[n].parts = rB (prv l[n].parts k) (l[n].parts.drop k)) ⟨rfl, by simp [prv], by simp [prv]⟩ ?_ ?_) ?_
      · rintro k hk _ ⟨rfl, hq2, hJ⟩
        have hnx2 : prv l[n].parts (k + 1) = l[n].parts[k] := prv_succ hk
        have hqq2 : 0 < k → prv l[n].parts k = l[n].parts[k - 1] := fun h0 => by
          obtain ⟨m, rfl⟩ : ∃ m, k = m + 1 := ⟨k - 1, by omega⟩
          rw [prv_succ (by omega)]; simp
        have hq02 : k = 0 → prv l[n].parts k = -1 := fun h => by simp [prv, h]
        rw [drop_cons hk, rB] at hJ
        generalize prv l[n].parts k = p at *
        refine Ret.condT (lt_cast hk) (Ret.bindM (Q' := fun b => b = !inB (p + 1) 999999 l[n].parts[k]) ?_ ?_)
        · refine Ret.bind (ixR hk (Ret.bind (r_within1 ?_)))
          cases hb : inB 0 999999 l[n].parts[k] with
          | false =>
            refine Ret.condT rfl (Ret.ok ?_)
            simp only [inB, decide_eq_false_iff_not] at hb
            symm; simp only [inB, Bool.not_eq_true', decide_eq_false_iff_not]; omega
          | true =>
            have hb := of_decide_eq_true (show decide _ = true from hb)
            refine Ret.condF rfl (Ret.cond (fun h0 => ?_) (fun h0 => Ret.ok ?_))
            · have h0 : 0 < k := by have := of_decide_eq_true h0; omega
              refine Ret.bind (ixR hk (Ret.bind (Ret.chk (by omega) (Ret.bind (ixP hk h0 (Ret.ok ?_))))))
              have := hqq2 h0
              rw [Bool.eq_iff_iff]
              simp only [inB, Bool.not_eq_true', decide_eq_true_eq, decide_eq_false_iff_not]; omega
            · have h0 : k = 0 := by have := of_decide_eq_false h0; omega
              have := hq02 h0
              symm; simp only [inB, Bool.not_eq_false', decide_eq_true_eq]; omega
        · rintro _ rfl
          cases hb : inB (p + 1) 999999 l[n].parts[k] with
          | false => exact Ret.condT rfl (Ret.done (by rw [hJ, hb]; rfl))
          | true =>
            have hb2 := of_decide_eq_true (show decide _ = true from hb)
            refine Ret.condF rfl (Ret.bind (Ret.chk (by omega) (Ret.next ⟨rfl, ?_, ?_⟩)))
            · rw [hnx2]; omega
            · rw [hJ, hb, hnx2, Bool.true_and]
      · rintro _ ⟨rfl, _, hJ⟩
        rw [List.drop_length] at hJ
        exact Ret.condF not_lt_cast (Ret.done (by rw [hJ]; rfl))
      · rintro r rfl
        cases hg : rB (-1) l[n].parts with
        | false =>
          refine Ret.elimR (Ret.done ?_)
          rw [hI]; simp [gB, hg]
        | true =>
          refine Ret.elimL (Ret.bind (Ret.chk (by omega) (Ret.next ⟨rfl, ?_, ?_⟩)))
          · have := of_decide_eq_true (show decide _ = true from ha.1)
            rw [hnx]; omega
          · rw [hI, hnx]; simp [gB, hg, ha.1, ha.2.1, of_decide_eq_true ha.2.2]
  · rintro _ ⟨rfl, _, hI⟩
    rw [List.drop_length] at hI
    exact Ret.condF not_lt_cast (Ret.done (by rw [hI]; rfl))
  · rintro r rfl
    cases fB (-1) l with
    | false => exact Ret.elimR (Ret.ok rfl)
    | true => exact Ret.elimL (Ret.ok rfl)
end Go.Proofs.Ytdbogmmdogjhpaa
set_option maxRecDepth 20000
set_option maxHeartbeats 1000000
set_option linter.unusedVariables false
set_option linter.unusedSimpArgs false
namespace Go.Proofs.Ytdbogmmdogjhpaa
open Go Go.Sx
namespace S
structure Vd (h : Hunt) (l : List Filing) : Prop where
  win : 0 ≤ h.window ∧ h.window ≤ 100000
  com : 2 ≤ h.common ∧ h.common ≤ 24
  siz : 2 ≤ h.size ∧ h.size ≤ 24
  len : l.length ≤ 24
  ids : (l.map (·.id)).Pairwise (· < ·)
  idr : ∀ f ∈ l, 0 ≤ f.id ∧ f.id ≤ 999999
  day : ∀ f ∈ l, 0 ≤ f.day ∧ f.day ≤ 100000
  prl : ∀ f ∈ l, f.parts.length ≤ 6
  prt : ∀ f ∈ l, f.parts.Pairwise (· < ·)
  prr : ∀ f ∈ l, ∀ p ∈ f.parts, 0 ≤ p ∧ p ≤ 999999
theorem inB_iff {lo hi x : Int} : inB lo hi x = true ↔ lo ≤ x ∧ x ≤ hi := by simp [inB]
theorem rB_iff : ∀ {xs : List Int} {last : Int}, rB last xs = true ↔ xs.Pairwise (· < ·) ∧ ∀ x ∈ xs, last < x ∧ x ≤ 999999
  | [], last => by simp [rB]
  | x :: xs, last => by
    rw [rB, Bool.and_eq_true, rB_iff, inB_iff, List.pairwise_cons]
    constructor
    · rintro ⟨h1, h2, h3⟩
      refine ⟨⟨fun y hy => (h3 y hy).1, h2⟩, fun y hy => ?_⟩
      rcases List.mem_cons.1 hy with rfl | hy
      · omega
      · have := h3 y hy; omega
    · rintro ⟨⟨h1, h2⟩, h3⟩
      have := h3 x (by simp)
      exact ⟨by omega, h2, fun y hy => ⟨h1 y hy, (h3 y (List.mem_cons_of_mem _ hy)).2⟩⟩
theorem gB_iff {f : Filing} : gB f = true ↔ (0 ≤ f.day ∧ f.day ≤ 100000) ∧ f.parts.length ≤ 6 ∧ f.parts.Pairwise (· < ·) ∧ ∀ p ∈ f.parts, 0 ≤ p ∧ p ≤ 999999 := by
  simp only [gB, Bool.and_eq_true, inB_iff, decide_eq_true_eq, rB_iff]
  constructor
  · rintro ⟨⟨h1, h2⟩, h3, h4⟩
    exact ⟨h1, h2, h3, fun p hp => by have := h4 p hp; omega⟩
  · rintro ⟨h1, h2, h3, h4⟩
    exact ⟨⟨h1, h2⟩, h3, fun p hp => by have := h4 p hp; omega⟩
theorem check_iff {h : Hunt} {l : List Filing} : check h l = 0 ↔ Vd h l := by
  unfold check
  rw [fB_split]
  constructor
  · intro hc
    split at hc
    · rename_i hh
      split at hc
      · rename_i hf
        simp only [Bool.and_eq_true, decide_eq_true_eq, List.all_eq_true, gB_iff, rB_iff] at hf
        simp only [hB, Bool.and_eq_true, inB_iff] at hh
        obtain ⟨h1, h2, h3, h4⟩ := hf
        exact ⟨hh.1.1, hh.1.2, hh.2, h1, h3, fun f hf => by have := h4 f.id (List.mem_map_of_mem hf); omega, fun f hf => (h2 f hf).1, fun f hf => (h2 f hf).2.1, fun f hf => (h2 f hf).2.2.1, fun f hf => (h2 f hf).2.2.2⟩
      · cases hc
    · cases hc
  · intro v
    rw [if_pos, if_pos]
    · simp only [Bool.and_eq_true, decide_eq_true_eq, List.all_eq_true, gB_iff, rB_iff]
      refine ⟨v.len, fun f hf => ⟨v.day f hf, v.prl f hf, v.prt f hf, v.prr f hf⟩, v.ids, fun x hx => ?_⟩
      obtain ⟨f, hf, rfl⟩ := List.mem_map.1 hx
      have := v.idr f hf; omega
    · simp only [hB, Bool.and_eq_true, inB_iff]
      exact ⟨⟨v.win, v.com⟩, v.siz⟩
theorem idx_cases (xs : List Int) (v : Int) : (∃ k : Nat, idx xs v = k ∧ ∃ hk : k < xs.length, xs[k] = v) ∨ (idx xs v = -1 ∧ v ∉ xs) := by
  unfold idx
  by_cases hv : v ∈ xs
  · rw [if_pos hv]
    exact .inl ⟨_, rfl, List.idxOf_lt_length_iff.2 hv, List.getElem_idxOf (List.idxOf_lt_length_iff.2 hv)⟩
  · rw [if_neg hv]; exact .inr ⟨rfl, hv⟩
theorem idx_of {xs : List Int} {v : Int} {k : Nat} (hk : k < xs.length) (h : xs[k] = v) (hf : ∀ j (hj : j < k), xs[j]'(by omega) ≠ v) : idx xs v = k := by
  have hm : v ∈ xs := h ▸ List.getElem_mem hk
  unfold idx
  rw [if_pos hm]
  congr 1
  rcases Nat.lt_trichotomy (xs.idxOf v) k with h1 | h1 | h1
  · exact absurd (List.getElem_idxOf (by omega)) (hf _ h1)
  · exact h1
  · have h2 := List.not_of_lt_findIdx (p := fun x => x == v) (xs := xs) (i := k) (by simpa [List.idxOf] using h1)
    simp [h] at h2
theorem idx_none {xs : List Int} {v : Int} (h : v ∉ xs) : idx xs v = -1 := by unfold idx; rw [if_neg h]
end S
open S
theorem nt {xs : List Int} {v : Int} {n : Nat} (hn : n < xs.length) (h : v ∉ xs.take n) (hne : xs[n] ≠ v) : v ∉ xs.take (n + 1) := by
  rw [take_succ hn, List.mem_append, List.mem_singleton]
  rintro (h1 | h1)
  · exact h h1
  · exact hne h1.symm
theorem nt_get {xs : List Int} {v : Int} {n : Nat} (h : v ∉ xs.take n) : ∀ j (hj : j < n) (hx : j < xs.length), xs[j] ≠ v := fun j hj hx e => h (by
  rw [← e, show xs[j] = (xs.take n)[j]'(by simp; omega) by simp]
  exact List.getElem_mem _)
theorem r_Index {s : List Int} {v : Int} (hs : s.length ≤ 9223372036854775807) : Ret (P.slices_Index_52 s v) (· = idx s v) := by
  unfold P.slices_Index_52
  refine Ret.bindM (Q' := fun r => (∃ n : Nat, r = Sum.inr (n : Int) ∧ idx s v = n) ∨ (r = Sum.inl () ∧ v ∉ s)) (Ret.upto s.length (fun n (i : Int) => i = n ∧ v ∉ s.take n) ⟨rfl, by simp⟩ ?_ ?_) ?_
  · rintro n hn i ⟨rfl, hI⟩
    refine Ret.condT (lt_cast hn) (Ret.bind (ixR hn (Ret.cond (fun h => Ret.done (.inl ⟨n, rfl, idx_of hn (of_decide_eq_true h).symm fun j hj => nt_get hI j hj (by omega)⟩)) (fun h => Ret.bind (Ret.chk (by omega) (Ret.next ⟨rfl, nt hn hI fun e => of_decide_eq_false h e.symm⟩))))))
  · rintro i ⟨rfl, hI⟩
    rw [List.take_length] at hI
    exact Ret.condF not_lt_cast (Ret.done (.inr ⟨rfl, hI⟩))
  · rintro r (⟨n, rfl, h⟩ | ⟨rfl, h⟩)
    · exact Ret.elimR (Ret.ok h.symm)
    · exact Ret.elimL (Ret.ok (idx_none h).symm)
theorem r_Contains {s : List Int} {v : Int} (hs : s.length ≤ 9223372036854775807) : Ret (P.slices_Contains_61 s v) (· = decide (v ∈ s)) := by
  unfold P.slices_Contains_61
  refine Ret.bindM (r_Index hs) ?_
  rintro r rfl
  refine Ret.ok ?_
  rcases idx_cases s v with ⟨k, h, hk, h2⟩ | ⟨h, h2⟩
  · rw [h, decide_eq_true (by omega), decide_eq_true (h2 ▸ List.getElem_mem hk)]
  · rw [h, decide_eq_false (by omega), decide_eq_false h2]
theorem r_At {l : List Filing} {v : Int} (hs : l.length ≤ 9223372036854775807) : Ret (P.ref08_At l v) (· = idx (l.map (·.id)) v) := by
  unfold P.ref08_At
  refine Ret.bindM (Q' := fun r => (∃ n : Nat, r = Sum.inr (n : Int) ∧ idx (l.map (·.id)) v = n) ∨ (r = Sum.inl () ∧ v ∉ l.map (·.id))) (Ret.upto l.length (fun n (i : Int) => i = n ∧ v ∉ (l.map (·.id)).take n) ⟨rfl, by simp⟩ ?_ ?_) ?_
  · rintro n hn i ⟨rfl, hI⟩
    have hn2 : n < (l.map (·.id)).length := by simpa using hn
    have he : (l.map (·.id))[n] = l[n].id := by simp
    refine Ret.condT (lt_cast hn) (Ret.bind (ixR hn (Ret.cond (fun h => Ret.done (.inl ⟨n, rfl, idx_of hn2 (he.trans (of_decide_eq_true h)) fun j hj => nt_get hI j hj (by omega)⟩)) (fun h => Ret.bind (Ret.chk (by omega) (Ret.next ⟨rfl, nt hn2 hI fun e => of_decide_eq_false h (he.symm.trans e)⟩))))))
  · rintro i ⟨rfl, hI⟩
    rw [List.take_of_length_le (by simp)] at hI
    exact Ret.condF not_lt_cast (Ret.done (.inr ⟨rfl, hI⟩))
  · rintro r (⟨n, rfl, h⟩ | ⟨rfl, h⟩)
    · exact Ret.elimR (Ret.ok h.symm)
    · exact Ret.elimL (Ret.ok (idx_none h).symm)
theorem r_has {s : List Int} {v : Int} (hs : s.length ≤ 9223372036854775807) : Ret (P.ref08_has s v) (· = decide (v ∈ s)) := by
  unfold P.ref08_has
  refine Ret.bindM (Q' := fun r => r = if v ∈ s then Sum.inr true else Sum.inl ()) (Ret.upto s.length (fun n (i : Int) => i = n ∧ v ∉ s.take n) ⟨rfl, by simp⟩ ?_ ?_) ?_
  · rintro n hn i ⟨rfl, hI⟩
    refine Ret.condT (lt_cast hn) (Ret.bind (ixR hn (Ret.cond (fun h => Ret.done ?_) (fun h => Ret.bind (Ret.chk (by omega) (Ret.next ⟨rfl, nt hn hI (of_decide_eq_false h)⟩))))))
    rw [if_pos ((of_decide_eq_true h) ▸ List.getElem_mem hn)]
  · rintro i ⟨rfl, hI⟩
    rw [List.take_length] at hI
    exact Ret.condF not_lt_cast (Ret.done (by rw [if_neg hI]))
  · rintro r rfl
    by_cases hv : v ∈ s
    · rw [if_pos hv]; exact Ret.elimR (Ret.ok (by simp [hv]))
    · rw [if_neg hv]; exact Ret.elimL (Ret.ok (by simp [hv]))
/-! Comparisons. -/
theorem take_eq {α : Type} {a b : List α} {n : Nat} (ha : n < a.length) (hb : n < b.length) (h : a.take n = b.take n) (e : a[n] = b[n]) : a.take (n + 1) = b.take (n + 1) := by rw [take_succ ha, take_succ hb, h, e]
theorem r_SameInts {a b : List Int} (hs : a.length ≤ 9223372036854775807) : Ret (P.ref08_SameInts a b) (· = decide (a = b)) := by
  unfold P.ref08_SameInts
  refine Ret.cond (fun h => Ret.ok ?_) (fun h => ?_)
  · rw [Bool.not_eq_true', decide_eq_false_iff_not] at h
    exact (decide_eq_false fun e => h (by rw [e])).symm
  have hl : a.length = b.length := by simp at h; omega
  refine Ret.bindM (Q' := fun r => r = if a = b then Sum.inl () else Sum.inr false) (Ret.upto a.length (fun n (i : Int) => i = n ∧ a.take n = b.take n) ⟨rfl, by simp⟩ ?_ ?_) ?_
  · rintro n hn i ⟨rfl, hI⟩
    have hnb : n < b.length := by omega
    refine Ret.condT (lt_cast hn) (Ret.bind (ixR hn (Ret.bind (ixR hnb (Ret.cond (fun h => Ret.done ?_) (fun h => Ret.bind (Ret.chk (by omega) (Ret.next ⟨rfl, take_eq hn hnb hI (by simpa using h)⟩))))))))
    rw [if_neg]
    rintro rfl
    simp at h
  · rintro i ⟨rfl, hI⟩
    rw [List.take_length, hl, List.take_length] at hI
    exact Ret.condF not_lt_cast (Ret.done (by rw [if_pos hI]))
  · rintro r rfl
    by_cases hv : a = b
    · rw [if_pos hv]; exact Ret.elimL (Ret.ok (by simp [hv]))
    · rw [if_neg hv]; exact Ret.elimR (Ret.ok (by simp [hv]))
theorem r_SameLists {a b : List (List Int)} (hs : a.length ≤ 9223372036854775807) (hx : ∀ x ∈ a, x.length ≤ 9223372036854775807) : Ret (P.ref08_SameLists a b) (· = decide (a = b)) := by
  unfold P.ref08_SameLists
  refine Ret.cond (fun h => Ret.ok ?_) (fun h => ?_)
  · rw [Bool.not_eq_true', decide_eq_false_iff_not] at h
    exact (decide_eq_false fun e => h (by rw [e])).symm
  have hl : a.length = b.length := by simp at h; omega
  refine Ret.bindM (Q' := fun r => r = if a = b then Sum.inl () else Sum.inr false) (Ret.upto a.length (fun n (i : Int) => i = n ∧ a.take n = b.take n) ⟨rfl, by simp⟩ ?_ ?_) ?_
  · rintro n hn i ⟨rfl, hI⟩
    have hnb : n < b.length := by omega
    refine Ret.condT (lt_cast hn) (Ret.bind (ixR hn (Ret.bind (ixR hnb (Ret.bindM (r_SameInts (hx _ (List.getElem_mem hn))) ?_)))))
    rintro _ rfl
    refine Ret.cond (fun h => Ret.done ?_) (fun h => Ret.bind (Ret.chk (by omega) (Ret.next ⟨rfl, take_eq hn hnb hI (by simpa using h)⟩)))
    rw [if_neg]
    rintro rfl
    simp at h
  · rintro i ⟨rfl, hI⟩
    rw [List.take_length, hl, List.take_length] at hI
    exact Ret.condF not_lt_cast (Ret.done (by rw [if_pos hI]))
  · rintro r rfl
    by_cases hv : a = b
    · rw [if_pos hv]; exact Ret.elimL (Ret.ok (by simp [hv]))
    · rw [if_neg hv]; exact Ret.elimR (Ret.ok (by simp [hv]))
theorem r_SameSelf {l : List Filing} (hl : l.length ≤ 30) (hp : ∀ f ∈ l, f.parts.length ≤ 20) : Ret (P.ref08_Same l l) (· = true) := by
  unfold P.ref08_Same
  refine Ret.condF (by simp) ?_
  refine Ret.bindM (Q' := fun r => r = Sum.inl ()) (Ret.upto l.length (fun n (i : Int) => i = n) rfl ?_ ?_) ?_
  · rintro n hn _ rfl
    have hpn := hp l[n] (List.getElem_mem hn)
    refine Ret.condT (lt_cast hn) (Ret.bindM (Q' := fun b => b = false) (Ret.bind (ixR hn (Ret.bind (ixR hn (Ret.condF (by simp) (Ret.bind (ixR hn (Ret.bind (ixR hn (Ret.condF (by simp) (Ret.bind (ixR hn (Ret.bind (ixR hn (Ret.bind ((r_SameInts (by omega)).mono fun r hr => Ret.ok (by simp [hr]))))))))))))))))) ?_)
    rintro _ rfl
    exact Ret.condF rfl (Ret.bind (Ret.chk (by omega) (Ret.next rfl)))
  · rintro _ rfl
    exact Ret.condF not_lt_cast (Ret.done rfl)
  · rintro _ rfl
    exact Ret.elimL (Ret.ok rfl)
/-! Weights. -/
namespace S
def cnt (l : List Filing) (p : Int) : Nat := (l.filter fun f => decide (p ∈ f.parts)).length
def ptw (h : Hunt) (l : List Filing) (p : Int) : Int := if (cnt l p : Int) < 2 ∨ h.common ≤ cnt l p then 0 else 1000 / ((cnt l p : Int) - 1)
def wsum (h : Hunt) (l : List Filing) (ps qs : List Int) : Int := ((ps.filter fun p => decide (p ∈ qs)).map (ptw h l)).sum
def wt (h : Hunt) (l : List Filing) (x y : Filing) : Int := if h.window < x.day - y.day ∨ h.window < y.day - x.day then 0 else wsum h l x.parts y.parts
def w (h : Hunt) (l : List Filing) (i k : Nat) : Int := match l[i]?, l[k]? with
  | some x, some y => wt h l x y
  | _, _ => 0
theorem w_at {h : Hunt} {l : List Filing} {i k : Nat} (hi : i < l.length) (hk : k < l.length) : w h l i k = wt h l l[i] l[k] := by
  unfold w; rw [List.getElem?_eq_getElem hi, List.getElem?_eq_getElem hk]
theorem part_in (h : Hunt) (l : List Filing) (p : Int) : 0 ≤ ptw h l p ∧ ptw h l p ≤ 1000 := by
  unfold ptw
  split
  · omega
  · rename_i hn
    have h1 : 1 ≤ (cnt l p : Int) - 1 := by omega
    generalize (cnt l p : Int) - 1 = d at *
    exact ⟨Int.ediv_nonneg (by omega) (by omega), Int.ediv_le_self _ (by omega)⟩
theorem sum_in (f : Int → Int) (hf : ∀ p, 0 ≤ f p ∧ f p ≤ 1000) : ∀ (ps : List Int), 0 ≤ (ps.map f).sum ∧ (ps.map f).sum ≤ 1000 * ps.length
  | [] => by simp
  | p :: ps => by
    have := sum_in f hf ps
    have := hf p
    simp only [List.map_cons, List.sum_cons, List.length_cons]
    omega
theorem wsum_in (h : Hunt) (l : List Filing) (ps qs : List Int) : 0 ≤ wsum h l ps qs ∧ wsum h l ps qs ≤ 1000 * ps.length := by
  have h1 := sum_in (ptw h l) (part_in h l) (ps.filter fun p => decide (p ∈ qs))
  have h2 := List.length_filter_le (fun p => decide (p ∈ qs)) ps
  unfold wsum
  omega
theorem wt_in {h : Hunt} {l : List Filing} {x y : Filing} (hx : x.parts.length ≤ 6) : 0 ≤ wt h l x y ∧ wt h l x y ≤ 6000 := by
  unfold wt
  split
  · omega
  · have := wsum_in h l x.parts y.parts
    omega
/-- Two rising lists with the same elements are one. -/
theorem rise_eq : ∀ {xs ys : List Int}, xs.Pairwise (· < ·) → ys.Pairwise (· < ·) → (∀ a, a ∈ xs ↔ a ∈ ys) → xs = ys
  | [], [], _, _, _ => rfl
  | [], y :: ys, _, _, h => by have := (h y).2 (by simp); cases this
  | x :: xs, [], _, _, h => by have := (h x).1 (by simp); cases this
  | x :: xs, y :: ys, h1, h2, h => by
    rw [List.pairwise_cons] at h1 h2
    have hxy : x = y := by
      have hx := (h x).1 (by simp)
      have hy := (h y).2 (by simp)
      rcases List.mem_cons.1 hx with e | hx
      · exact e
      · rcases List.mem_cons.1 hy with e | hy
        · exact e.symm
        · have := h1.1 y hy
          have := h2.1 x hx
          omega
    subst hxy
    congr 1
    refine rise_eq h1.2 h2.2 fun a => ?_
    constructor
    · intro ha
      have hlt := h1.1 a ha
      rcases List.mem_cons.1 ((h a).1 (List.mem_cons_of_mem _ ha)) with e | h3
      · omega
      · exact h3
    · intro ha
      have hlt := h2.1 a ha
      rcases List.mem_cons.1 ((h a).2 (List.mem_cons_of_mem _ ha)) with e | h3
      · omega
      · exact h3
theorem wsum_comm (h : Hunt) (l : List Filing) {ps qs : List Int} (hp : ps.Pairwise (· < ·)) (hq : qs.Pairwise (· < ·)) : wsum h l ps qs = wsum h l qs ps := by
  unfold wsum
  rw [rise_eq (hp.filter _) (hq.filter _)]
  intro a
  simp only [List.mem_filter, decide_eq_true_eq]
  exact ⟨fun h => ⟨h.2, h.1⟩, fun h => ⟨h.2, h.1⟩⟩
theorem wt_comm {h : Hunt} {l : List Filing} {x y : Filing} (hx : x.parts.Pairwise (· < ·)) (hy : y.parts.Pairwise (· < ·)) : wt h l x y = wt h l y x := by
  unfold wt
  rw [wsum_comm h l hx hy]
  congr 1
  rw [or_comm]
section
variable {h : Hunt} {l : List Filing} (v : Vd h l)
include v
theorem Vd.wcomm (i k : Nat) : w h l i k = w h l k i := by
  unfold w
  cases hi : l[i]? with
  | none => cases l[k]? <;> rfl
  | some x =>
    cases hk : l[k]? with
    | none => rfl
    | some y => exact wt_comm (v.prt x (List.mem_of_getElem? hi)) (v.prt y (List.mem_of_getElem? hk))
theorem Vd.win_ (i k : Nat) : 0 ≤ w h l i k ∧ w h l i k ≤ 6000 := by
  unfold w
  cases hi : l[i]? with
  | none => exact ⟨Int.le_refl _, show (0 : Int) ≤ 6000 by omega⟩
  | some x =>
    cases hk : l[k]? with
    | none => exact ⟨Int.le_refl _, show (0 : Int) ≤ 6000 by omega⟩
    | some y => exact wt_in (v.prl x (List.mem_of_getElem? hi))
theorem Vd.pl64 {f : Filing} (hf : f ∈ l) : f.parts.length ≤ 9223372036854775807 := by have := v.prl f hf; omega
end
end S
open S
theorem cnt_take {l : List Filing} {p : Int} {n : Nat} (hn : n < l.length) : cnt (l.take (n + 1)) p = cnt (l.take n) p + (if p ∈ l[n].parts then 1 else 0) := by
  unfold cnt
  rw [take_succ hn, List.filter_append, List.length_append]
  congr 1
  by_cases hp : p ∈ l[n].parts <;> simp [hp]
theorem cnt_le (l : List Filing) (p : Int) : cnt l p ≤ l.length := List.length_filter_le _ _
section
variable {h : Hunt} {l : List Filing} (v : Vd h l)
include v
theorem r_part (p : Int) : Ret (P.ref08_part h l p) (· = ptw h l p) := by
  have hlen := v.len
  unfold P.ref08_part
  refine Ret.bindM (Q' := fun r => r = (cnt l p : Int)) (Ret.upto l.length (fun n (s : Int × Int) => s = ((cnt (l.take n) p : Int), (n : Int))) rfl ?_ ?_) ?_
  · rintro n hn _ rfl
    dsimp only
    have hc := cnt_le (l.take n) p
    rw [List.length_take] at hc
    refine Ret.condT (lt_cast hn) (Ret.bind (ixR hn (Ret.bindM (r_has (v.pl64 (List.getElem_mem hn))) ?_)))
    rintro _ rfl
    refine Ret.bindM (Q' := fun c => c = (cnt (l.take (n + 1)) p : Int)) (Ret.cond (fun hp => Ret.bind (Ret.chk (by omega) (Ret.ok ?_))) (fun hp => Ret.ok ?_)) ?_
    · have hp := of_decide_eq_true hp
      rw [cnt_take hn, if_pos hp]; rfl
    · have hp := of_decide_eq_false hp
      rw [cnt_take hn, if_neg hp]; rfl
    · rintro _ rfl
      exact Ret.bind (Ret.chk (by omega) (Ret.next rfl))
  · rintro _ rfl
    dsimp only
    rw [List.take_length]
    exact Ret.condF not_lt_cast (Ret.done rfl)
  · rintro _ rfl
    have hc := cnt_le l p
    refine Ret.bindM (Q' := fun b => b = decide ((cnt l p : Int) < 2 ∨ h.common ≤ cnt l p)) (Ret.cond (fun h2 => Ret.ok ?_) (fun h2 => Ret.ok ?_)) ?_
    · have h2 := of_decide_eq_true h2
      simp [h2]
    · have h2 := of_decide_eq_false h2
      rw [decide_eq_decide]; omega
    · rintro _ rfl
      refine Ret.cond (fun h2 => Ret.ok ?_) (fun h2 => ?_)
      · have h2 := of_decide_eq_true h2
        unfold ptw; rw [if_pos h2]
      · have h2 := of_decide_eq_false h2
        refine Ret.bind (Ret.chk (by omega) (Ret.bind (Ret.quoO (by decide) (by omega) (by decide) (Ret.ok ?_))))
        unfold ptw; rw [if_neg h2]
theorem r_weight {a b : Nat} (ha : a < l.length) (hb : b < l.length) : Ret (P.ref08_weight h l (a : Int) (b : Int)) (· = w h l a b) := by
  have hda := v.day _ (List.getElem_mem ha)
  have hdb := v.day _ (List.getElem_mem hb)
  have hpa := v.prl _ (List.getElem_mem ha)
  have hpb := v.prl _ (List.getElem_mem hb)
  rw [w_at ha hb]
  unfold P.ref08_weight
  refine Ret.bind (ixR ha (Ret.bind (ixR hb ?_)))
  generalize l[a] = x at *
  generalize l[b] = y at *
  refine Ret.bindM (Q' := fun c => c = decide (h.window < x.day - y.day ∨ h.window < y.day - x.day)) (Ret.bind (Ret.chk (by omega) (Ret.cond (fun h2 => Ret.ok ?_) (fun h2 => Ret.bind (Ret.chk (by omega) (Ret.ok ?_)))))) ?_
  · have h2 := of_decide_eq_true h2
    simp [h2]
  · have h2 := of_decide_eq_false h2
    rw [decide_eq_decide]; omega
  rintro _ rfl
  refine Ret.cond (fun h2 => Ret.ok ?_) (fun h2 => ?_)
  · have h2 := of_decide_eq_true h2
    unfold wt; rw [if_pos h2]
  have h2 := of_decide_eq_false h2
  unfold wt
  rw [if_neg h2]
  refine Ret.bindM (Q' := fun r => r = wsum h l x.parts y.parts) (Ret.upto x.parts.length (fun n (s : Int × Int) => s = (wsum h l (x.parts.take n) y.parts, (n : Int))) (by simp [wsum]) ?_ ?_) ?_
  · rintro n hn _ rfl
    dsimp only
    have hs := wsum_in h l (x.parts.take n) y.parts
    have hpt := part_in h l x.parts[n]
    rw [List.length_take] at hs
    have hstep : wsum h l (x.parts.take (n + 1)) y.parts = wsum h l (x.parts.take n) y.parts + (if x.parts[n] ∈ y.parts then ptw h l x.parts[n] else 0) := by
      unfold wsum
      rw [take_succ hn, List.filter_append, List.map_append, List.sum_append]
      congr 1
      by_cases hp : x.parts[n] ∈ y.parts <;> simp [hp]
    refine Ret.condT (lt_cast hn) (Ret.bind (ixR hn (Ret.bindM (r_has (by omega)) ?_)))
    rintro _ rfl
    refine Ret.bindM (Q' := fun c => c = wsum h l (x.parts.take (n + 1)) y.parts) (Ret.cond (fun hp => Ret.bind (ixR hn (Ret.bindM (r_part v _) ?_))) (fun hp => Ret.ok ?_)) ?_
    · rintro _ rfl
      have hp := of_decide_eq_true hp
      refine Ret.bind (Ret.chk (by omega) (Ret.ok ?_))
      rw [hstep, if_pos hp]
    · have hp := of_decide_eq_false hp
      rw [hstep, if_neg hp]; omega
    · rintro _ rfl
      exact Ret.bind (Ret.chk (by omega) (Ret.next rfl))
  · rintro _ rfl
    dsimp only
    rw [List.take_length]
    exact Ret.condF not_lt_cast (Ret.done rfl)
  · rintro _ rfl
    exact Ret.ok rfl
end
end Go.Proofs.Ytdbogmmdogjhpaa
set_option maxRecDepth 20000
set_option maxHeartbeats 1000000
set_option linter.unusedVariables false
set_option linter.unusedSimpArgs false
namespace Go.Proofs.Ytdbogmmdogjhpaa
open Go Go.Sx
namespace S
/-- A table of 24 times 24 numbers. -/
def tab (f : Nat → Nat → Int) : List Int := (List.range 576).map fun t => f (t / 24) (t % 24)
def upd2 (f : Nat → Nat → Int) (i k : Nat) (x : Int) : Nat → Nat → Int := fun a b => if a = i ∧ b = k then x else f a b
theorem tab_len (f : Nat → Nat → Int) : (tab f).length = 576 := by simp [tab]
theorem tab_get {f : Nat → Nat → Int} {i k : Nat} (hi : i < 24) (hk : k < 24) : (tab f)[i * 24 + k]? = some (f i k) := by
  unfold tab
  rw [List.getElem?_map, List.getElem?_range (by omega)]
  simp only [Option.map_some]
  rw [show (i * 24 + k) / 24 = i by omega, show (i * 24 + k) % 24 = k by omega]
theorem tab_set {f : Nat → Nat → Int} {i k : Nat} {x : Int} (hi : i < 24) (hk : k < 24) : (tab f).set (i * 24 + k) x = tab (upd2 f i k x) := by
  apply List.ext_getElem?
  intro t
  rw [List.getElem?_set]
  rcases Nat.lt_or_ge t 576 with ht | ht
  · have e1 : ∀ g : Nat → Nat → Int, (tab g)[t]? = some (g (t / 24) (t % 24)) := fun g => by
      unfold tab
      rw [List.getElem?_map, List.getElem?_range ht]; rfl
    rw [e1, e1, tab_len]
    by_cases e : i * 24 + k = t
    · rw [if_pos e, if_pos (by omega)]
      unfold upd2
      rw [if_pos ⟨by omega, by omega⟩]
    · rw [if_neg e]
      unfold upd2
      rw [if_neg]
      rintro ⟨h1, h2⟩
      omega
  · rw [List.getElem?_eq_none (by rw [tab_len]; omega), List.getElem?_eq_none (by rw [tab_len]; omega), if_neg (by omega)]
theorem tab_ext {f g : Nat → Nat → Int} (h : ∀ a b, a < 24 → b < 24 → f a b = g a b) : tab f = tab g := by
  unfold tab
  refine List.map_congr_left fun t ht => ?_
  have := List.mem_range.1 ht
  exact h _ _ (by omega) (by omega)
theorem upd2_upd2 {f : Nat → Nat → Int} {i k : Nat} {x y : Int} : upd2 (upd2 f i k x) i k y = upd2 f i k y := by
  funext a b
  unfold upd2
  split <;> rfl
theorem upd2_self {f : Nat → Nat → Int} {i k : Nat} {x : Int} : upd2 f i k x i k = x := by simp [upd2]
theorem tab_zero : List.replicate 576 (0 : Int) = tab fun _ _ => 0 := by
  unfold tab
  rw [List.map_const']; simp
def wm (h : Hunt) (l : List Filing) (a b : Nat) : Int := if a = b then 0 else w h l a b
def hk (h : Hunt) (l : List Filing) : Hunt_94 := ⟨h, l.map (·.id), tab (wm h l)⟩
def ids (l : List Filing) : List Int := l.map (·.id)
theorem cnt_mono {l : List Filing} {p : Int} {n m : Nat} (h : n ≤ m) : cnt (l.take n) p ≤ cnt (l.take m) p := by
  unfold cnt
  refine (List.Sublist.filter _ ?_).length_le
  rw [show l.take n = (l.take m).take n by rw [List.take_take, Nat.min_eq_left h]]
  exact List.take_sublist _ _
theorem cnt_two {l : List Filing} {p : Int} {i k : Nat} (hi : i < l.length) (hk : k < i) (h1 : p ∈ l[i].parts) (h2 : p ∈ (l[k]'(by omega)).parts) : 2 ≤ cnt l p := by
  have a1 : cnt (l.take (i + 1)) p = cnt (l.take i) p + 1 := by rw [cnt_take hi, if_pos h1]
  have a2 : cnt (l.take (k + 1)) p = cnt (l.take k) p + 1 := by rw [cnt_take (by omega), if_pos h2]
  have a3 := cnt_mono (l := l) (p := p) (show k + 1 ≤ i from hk)
  have a4 := cnt_mono (l := l) (p := p) (show i + 1 ≤ l.length from hi)
  rw [List.take_length] at a4
  omega
theorem prs_mem {i k : Int} : ∀ {n : Nat}, (i, k) ∈ prs n ↔ 0 ≤ k ∧ k < i ∧ i < n
  | 0 => by simp [prs]; omega
  | n + 1 => by
    rw [prs, List.mem_append, prs_mem, List.mem_map]
    constructor
    · rintro (h | ⟨x, hx, e⟩)
      · omega
      · have := List.mem_range.1 hx
        simp only [Prod.mk.injEq] at e
        omega
    · intro h
      by_cases hi : i < n
      · left; omega
      · right
        refine ⟨k.toNat, List.mem_range.2 (by omega), ?_⟩
        simp only [Prod.mk.injEq]
        omega
theorem prs_nodup : ∀ n, (prs n).Nodup
  | 0 => List.nodup_nil
  | n + 1 => by
    rw [prs, List.nodup_append]
    refine ⟨prs_nodup n, ?_, fun a ha b hb e => ?_⟩
    · exact List.Pairwise.map _ (fun a b (hab : a ≠ b) => fun e => hab (by simp only [Prod.mk.injEq] at e; omega)) List.nodup_range
    · subst e
      obtain ⟨i, k⟩ := a
      have h1 := prs_mem.1 ha
      obtain ⟨x, hx, e⟩ := List.mem_map.1 hb
      simp only [Prod.mk.injEq] at e
      omega
end S
open S
theorem r_ixA {i : Nat} {Q : Int → Prop} (h : i < 24) (q : Q i) : Ret (Go.Rx.ixA 24 (i : Int)) Q := ⟨_, by unfold Go.Rx.ixA; rw [if_pos ⟨by omega, by omega⟩], q⟩
theorem r_tab {f : Nat → Nat → Int} {i k : Nat} {Q : Int → Prop} (hi : i < 24) (hk : k < 24) (q : Q (f i k)) : Ret (ixo (tab f) ((i : Int) * 24 + (k : Int) * 1)) Q := by
  have : ((i : Int) * 24 + (k : Int) * 1) = ((i * 24 + k : Nat) : Int) := by omega
  rw [this]
  exact Ret.ixo (tab_get hi hk) q
theorem r_tabS {f : Nat → Nat → Int} {i k : Nat} {x : Int} {Q : List Int → Prop} (hi : i < 24) (hk : k < 24) (q : Q (tab (upd2 f i k x))) : Ret (seto (tab f) ((i : Int) * 24 + (k : Int) * 1) x) Q := by
  have : ((i : Int) * 24 + (k : Int) * 1) = ((i * 24 + k : Nat) : Int) := by omega
  rw [this]
  exact Ret.seto (by rw [tab_len]; omega) (by rw [tab_set hi hk]; exact q)
section
variable {h : Hunt} {l : List Filing} (v : Vd h l)
include v
theorem r_open0 : Ret (P.ring_open h l) (· = (some (hk h l), 0)) := by
  have hlen := v.len
  have hw := v.win
  have hc := v.com
  unfold P.ring_open
  refine Ret.bindM (r_ringCheck (by omega) fun f hf => by have := v.prl f hf; omega) ?_
  rintro _ rfl
  rw [check_iff.2 v]
  refine Ret.condF rfl ?_
  refine Ret.bindM (Q' := fun r => r.2 = l.map (·.id) ∧ ∀ p, (r.1 p).getD 0 = (cnt l p : Int)) (Ret.upto l.length (fun n (s : Int × List Int × FMap Int Int) => s.1 = (n : Int) ∧ s.2.1 = (l.take n).map (·.id) ∧ ∀ p, (s.2.2 p).getD 0 = (cnt (l.take n) p : Int)) ⟨rfl, rfl, fun p => rfl⟩ ?_ ?_) ?_
  · rintro n hn ⟨_, _, m⟩ ⟨rfl, rfl, hm⟩
    dsimp only at hm ⊢
    have hp := v.prl _ (List.getElem_mem hn)
    have hpt := v.prt _ (List.getElem_mem hn)
    refine Ret.condT (lt_cast hn) (Ret.bind (ixR hn (Ret.bind (Ret.appo (by simp; omega) (by simp; omega) ?_))))
    refine Ret.bindM (Q' := fun r => ∀ p, (r p).getD 0 = (cnt (l.take (n + 1)) p : Int)) (Ret.upto l[n].parts.length (fun k (s : Int × FMap Int Int) => s.1 = (k : Int) ∧ ∀ p, (s.2 p).getD 0 = (cnt (l.take n) p : Int) + (if p ∈ l[n].parts.take k then 1 else 0)) ⟨rfl, fun p => by simp [hm]⟩ ?_ ?_) ?_
    · rintro k hk ⟨_, m2⟩ ⟨rfl, hm2⟩
      dsimp only at hm2 ⊢
      have hcn := cnt_le (l.take n) l[n].parts[k]
      rw [List.length_take] at hcn
      have hnot : l[n].parts[k] ∉ l[n].parts.take k := fun hmem => by
        obtain ⟨j, hj, e⟩ := List.getElem_of_mem hmem
        have hjk : j < k := by simp at hj; omega
        have := (List.pairwise_iff_getElem.1 hpt) j k (by omega) hk hjk
        simp at e; omega
      refine Ret.condT (lt_cast hk) (Ret.bind (ixR hk (Ret.bind (Ret.chk ?_ (Ret.bind (Ret.chk (by omega) (Ret.next ⟨rfl, fun p => ?_⟩)))))))
      · rw [hm2, if_neg hnot]; omega
      · rw [hm2 l[n].parts[k], if_neg hnot]
        simp only [fput]
        have hiff : p ∈ l[n].parts.take (k + 1) ↔ p ∈ l[n].parts.take k ∨ p = l[n].parts[k] := by rw [take_succ hk, List.mem_append, List.mem_singleton]
        by_cases e : p = l[n].parts[k]
        · rw [if_pos e, if_pos (hiff.2 (.inr e)), e]
          simp
        · rw [if_neg e, hm2 p]
          by_cases e2 : p ∈ l[n].parts.take k
          · rw [if_pos e2, if_pos (hiff.2 (.inl e2))]
          · rw [if_neg e2, if_neg fun h => (hiff.1 h).elim e2 e]
    · rintro ⟨_, m2⟩ ⟨rfl, hm2⟩
      dsimp only at hm2 ⊢
      rw [List.take_length] at hm2
      refine Ret.condF not_lt_cast (Ret.done fun p => ?_)
      rw [hm2, cnt_take hn]
      split <;> simp
    · intro m2 hm2
      refine Ret.bind (Ret.chk (by omega) (Ret.next ⟨rfl, ?_, hm2⟩))
      dsimp only
      rw [take_succ hn, List.map_append]; rfl
  · rintro ⟨_, _, m⟩ ⟨rfl, rfl, hm⟩
    dsimp only at hm ⊢
    rw [List.take_length] at hm ⊢
    exact Ret.condF not_lt_cast (Ret.done ⟨rfl, hm⟩)
  rintro ⟨m, _⟩ ⟨rfl, hm⟩
  dsimp only at hm ⊢
  refine Ret.bind (Ret.val (a := prs l.length) (by unfold P.ring_pairs; rw [if_pos (by omega)]) ?_)
  rw [tab_zero]
  refine Ret.bind (Ret.over (fun (pre : List (Int × Int)) (s : List Int) => ∃ f, s = tab f ∧ (∀ a b, 0 ≤ f a b ∧ f a b ≤ 6000 * pre.length) ∧ (pre.Nodup → ∀ a b : Nat, f a b = if ((a : Int), (b : Int)) ∈ pre ∨ ((b : Int), (a : Int)) ∈ pre then w h l a b else 0)) ⟨fun _ _ => 0, rfl, fun _ _ => by simp, fun _ _ _ => by simp⟩ ?_ ?_)
  · rintro pre ⟨i, k⟩ _ hpl hall hx ⟨f, rfl, hf1, hf2⟩
    rw [prs_len] at hpl
    have hx := prs_mem.1 hx
    obtain ⟨i, rfl⟩ : ∃ n : Nat, i = n := ⟨i.toNat, by omega⟩
    obtain ⟨k, rfl⟩ : ∃ n : Nat, k = n := ⟨k.toNat, by omega⟩
    have hi : i < l.length := by omega
    have hk : k < l.length := by omega
    have htri : tri l.length ≤ 300 := by
      have : l.length = 0 ∨ l.length = 1 ∨ l.length = 2 ∨ l.length = 3 ∨ l.length = 4 ∨ l.length = 5 ∨ l.length = 6 ∨ l.length = 7 ∨ l.length = 8 ∨ l.length = 9 ∨ l.length = 10 ∨ l.length = 11 ∨ l.length = 12 ∨ l.length = 13 ∨ l.length = 14 ∨ l.length = 15 ∨ l.length = 16 ∨ l.length = 17 ∨ l.length = 18 ∨ l.length = 19 ∨ l.length = 20 ∨ l.length = 21 ∨ l.length = 22 ∨ l.length = 23 ∨ l.length = 24 := by omega
      rcases this with h | h | h | h | h | h | h | h | h | h | h | h | h | h | h | h | h | h | h | h | h | h | h | h | h <;> rw [h] <;> decide
    have hd1 := v.day _ (List.getElem_mem hi)
    have hd2 := v.day _ (List.getElem_mem hk)
    have hp1 := v.prl _ (List.getElem_mem hi)
    have hp2 := v.prl _ (List.getElem_mem hk)
    have hw0 := (v.win_ i k)
    -- what is so behind it, if what is written is the old and the weight
    have fin : ∀ g : Nat → Nat → Int, (∀ a b, g a b = if a = i ∧ b = k ∨ a = k ∧ b = i then f i k + w h l i k else f a b) → ∃ f', tab g = tab f' ∧ (∀ a b, 0 ≤ f' a b ∧ f' a b ≤ 6000 * (pre ++ [((i : Int), (k : Int))]).length) ∧ ((pre ++ [((i : Int), (k : Int))]).Nodup → ∀ a b : Nat, f' a b = if ((a : Int), (b : Int)) ∈ (pre ++ [((i : Int), (k : Int))]) ∨ ((b : Int), (a : Int)) ∈ (pre ++ [((i : Int), (k : Int))]) then w h l a b else 0) := fun g hg => by
      refine ⟨g, rfl, fun a b => ?_, fun hnd a b => ?_⟩
      · rw [hg, List.length_append, List.length_singleton]
        have := hf1 i k
        have := hf1 a b
        split <;> omega
      · rw [List.nodup_append] at hnd
        have hold := hf2 hnd.1
        have hni : ((i : Int), (k : Int)) ∉ pre := fun hm => hnd.2.2 _ hm _ (List.mem_singleton.2 rfl) rfl
        rw [hg]
        simp only [List.mem_append, List.mem_singleton, Prod.mk.injEq]
        by_cases e : a = i ∧ b = k ∨ a = k ∧ b = i
        · rw [if_pos e, if_pos (by omega)]
          have : f i k = 0 := by
            rw [hold, if_neg]
            rintro (h1 | h1)
            · exact hni h1
            · have := hall _ h1
              have := prs_mem.1 this
              omega
          rw [this]
          rcases e with ⟨rfl, rfl⟩ | ⟨rfl, rfl⟩
          · omega
          · rw [v.wcomm]; omega
        · rw [if_neg e, hold]
          have e1 : ¬ ((a : Int) = i ∧ (b : Int) = k) := by omega
          have e2 : ¬ ((b : Int) = i ∧ (a : Int) = k) := by omega
          simp only [e1, e2, or_false]
    dsimp only
    refine Ret.bind (Ret.bind (ixR hi (Ret.bind (ixR hk (Ret.bind (Ret.chk (by omega) (Ret.bind (Ret.chk (by omega) (Ret.cond (fun hgt => Ret.ok (Ret.ok ?_)) (fun hle => ?_))))))))))
    · have hgt := of_decide_eq_true hgt
      have hz : w h l i k = 0 := by
        rw [w_at hi hk]; unfold wt; rw [if_pos (by omega)]
      refine ⟨f, rfl, fun a b => ?_, fun hnd a b => ?_⟩
      · have := hf1 a b
        rw [List.length_append, List.length_singleton]; omega
      · rw [List.nodup_append] at hnd
        rw [hf2 hnd.1]
        simp only [List.mem_append, List.mem_singleton, Prod.mk.injEq]
        by_cases e : a = i ∧ b = k ∨ a = k ∧ b = i
        · have hz2 : w h l a b = 0 := by
            rcases e with ⟨rfl, rfl⟩ | ⟨rfl, rfl⟩
            · exact hz
            · rw [v.wcomm]; exact hz
          rw [hz2]; simp
        · have e1 : ¬ ((a : Int) = i ∧ (b : Int) = k) := by omega
          have e2 : ¬ ((b : Int) = i ∧ (a : Int) = k) := by omega
          simp only [e1, e2, or_false]
    · have hle := of_decide_eq_false hle
      have hwt : w h l i k = wsum h l l[i].parts l[k].parts := by
        rw [w_at hi hk]; unfold wt; rw [if_neg (by omega)]
      have hfik := hf1 i k
      refine Ret.bind (ixR hi ?_)
      refine Ret.bindM (Q' := fun r => r = tab (upd2 f i k (f i k + w h l i k))) (Ret.upto l[i].parts.length (fun n (s : Int × List Int) => s = ((n : Int), tab (upd2 f i k (f i k + wsum h l (l[i].parts.take n) l[k].parts)))) ?_ ?_ ?_) ?_
      · congr 2
        funext a b
        unfold upd2 wsum
        split
        · rename_i e; rw [e.1, e.2]; simp
        · rfl
      · rintro n hn _ rfl
        dsimp only
        have hs := wsum_in h l (l[i].parts.take n) l[k].parts
        have hpt := part_in h l l[i].parts[n]
        rw [List.length_take] at hs
        have hcl := cnt_le l l[i].parts[n]
        have hstep : wsum h l (l[i].parts.take (n + 1)) l[k].parts = wsum h l (l[i].parts.take n) l[k].parts + (if l[i].parts[n] ∈ l[k].parts then ptw h l l[i].parts[n] else 0) := by
          unfold wsum
          rw [take_succ hn, List.filter_append, List.map_append, List.sum_append]
          congr 1
          by_cases hp : l[i].parts[n] ∈ l[k].parts <;> simp [hp]
        refine Ret.condT (lt_cast hn) (Ret.bind (ixR hn ?_))
        rw [hm]
        refine Ret.bindM (Q' := fun b => b = decide ((cnt l l[i].parts[n] : Int) < h.common ∧ l[i].parts[n] ∈ l[k].parts)) (Ret.cond (fun hlt => ?_) (fun hge => Ret.ok ?_)) ?_
        · refine Ret.bind (ixR hk (Ret.bindM (r_Contains (by omega)) ?_))
          rintro _ rfl
          have hlt := of_decide_eq_true hlt
          exact Ret.ok (by rw [decide_eq_decide]; exact ⟨fun h => ⟨hlt, h⟩, fun h => h.2⟩)
        · have hge := of_decide_eq_false hge
          exact (decide_eq_false fun h => hge h.1).symm
        rintro _ rfl
        refine Ret.bindM (Q' := fun r => r = tab (upd2 f i k (f i k + wsum h l (l[i].parts.take (n + 1)) l[k].parts))) (Ret.cond (fun hb => ?_) (fun hb => Ret.ok ?_)) ?_
        · obtain ⟨hb1, hb2⟩ := of_decide_eq_true hb
          have h2 := cnt_two hi (by omega) (List.getElem_mem hn) hb2
          have hpw : ptw h l l[i].parts[n] = 1000 / ((cnt l l[i].parts[n] : Int) - 1) := by unfold ptw; rw [if_neg (by omega)]
          refine Ret.bind (r_ixA (by omega) (Ret.bind (r_ixA (by omega) (Ret.bind (r_tab (by omega) (by omega) (Ret.bind (Ret.chk (by omega) (Ret.bind (Ret.quoO (by decide) (by omega) (by decide) ?_)))))))))
          rw [upd2_self, ← hpw]
          refine Ret.bind (Ret.chk (by omega) (Ret.bind (r_ixA (by omega) (Ret.bind (r_ixA (by omega) (Ret.bind (r_tabS (by omega) (by omega) (Ret.ok ?_))))))))
          rw [upd2_upd2, hstep, if_pos hb2]
          congr 2
          omega
        · have hb := of_decide_eq_false hb
          congr 2
          rw [hstep]
          by_cases hin : l[i].parts[n] ∈ l[k].parts
          · rw [if_pos hin]
            have : ptw h l l[i].parts[n] = 0 := by unfold ptw; rw [if_pos]; right; have : ¬ (cnt l l[i].parts[n] : Int) < h.common := fun h => hb ⟨h, hin⟩; omega
            omega
          · rw [if_neg hin]; omega
        · rintro _ rfl
          exact Ret.bind (Ret.chk (by omega) (Ret.next rfl))
      · rintro _ rfl
        dsimp only
        rw [List.take_length, ← hwt]
        exact Ret.condF not_lt_cast (Ret.done rfl)
      · rintro _ rfl
        refine Ret.bind (r_ixA (by omega) (Ret.bind (r_ixA (by omega) (Ret.bind (r_tab (by omega) (by omega) ?_)))))
        rw [upd2_self]
        refine Ret.bind (r_ixA (by omega) (Ret.bind (r_ixA (by omega) (Ret.bind (r_tabS (by omega) (by omega) (Ret.ok (Ret.ok (fin _ fun a b => ?_))))))))
        unfold upd2
        by_cases e1 : a = i ∧ b = k
        · by_cases e2 : a = k ∧ b = i
          · omega
          · rw [if_neg e2, if_pos e1, if_pos (.inl e1)]
        · by_cases e2 : a = k ∧ b = i
          · rw [if_pos e2, if_pos (.inr e2)]
          · rw [if_neg e2, if_neg e1, if_neg (by omega)]
  · rintro _ ⟨f, rfl, _, hf⟩
    refine Ret.ok ?_
    have hf := hf (prs_nodup _)
    show (some (Hunt_94.mk h (l.map (·.id)) (tab f)), (0 : Int)) = (some (hk h l), 0)
    unfold hk
    congr 3
    refine tab_ext fun a b ha hb => ?_
    rw [hf]
    simp only [prs_mem]
    unfold wm
    by_cases e : a = b
    · rw [if_pos e, if_neg (by omega)]
    · rw [if_neg e]
      by_cases h1 : a < l.length ∧ b < l.length
      · rw [if_pos (by omega)]
      · rw [if_neg (by omega)]
        unfold w
        rcases Nat.lt_or_ge a l.length with h2 | h2
        · rw [List.getElem?_eq_none (show l.length ≤ b by omega)]
          cases l[a]? <;> rfl
        · rw [List.getElem?_eq_none h2]
end
theorem r_open (h : Hunt) {l : List Filing} (hl : l.length ≤ 30) (hp : ∀ f ∈ l, f.parts.length ≤ 20) : Ret (P.ring_open h l) (· = if check h l = 0 then (some (hk h l), 0) else (none, check h l)) := by
  by_cases hc : check h l = 0
  · rw [if_pos hc]; exact r_open0 (check_iff.1 hc)
  · rw [if_neg hc]
    unfold P.ring_open
    refine Ret.bindM (r_ringCheck hl hp) ?_
    rintro _ rfl
    exact Ret.condT (by simp [hc]) (Ret.ok rfl)
end Go.Proofs.Ytdbogmmdogjhpaa
set_option maxRecDepth 20000
set_option maxHeartbeats 1000000
set_option linter.unusedVariables false
set_option linter.unusedSimpArgs false
namespace Go.Proofs.Ytdbogmmdogjhpaa
open Go Go.Sx
open Go.Rx (ixA)
open S
open Go.Rx (ixA)
/-- Numbers as Go has them. -/
def zl (p : List Nat) : List Int := p.map fun (n : Nat) => (n : Int)
theorem zl_len (p : List Nat) : (zl p).length = p.length := by simp [zl]
theorem zl_snoc (p : List Nat) (k : Nat) : zl p ++ [(k : Int)] = zl (p ++ [k]) := by simp [zl]
theorem zl_get {p : List Nat} {i k : Nat} (h : p[i]? = some k) : (zl p)[i]? = some (k : Int) := by simp [zl, h]
section
variable {h : Hunt} {l : List Filing} (v : Vd h l)
include v
omit v in
theorem wm_le {s : Int} (hs : 1 ≤ s) {a b : Nat} : s ≤ wm h l a b ↔ a ≠ b ∧ s ≤ w h l a b := by
  unfold wm
  by_cases e : a = b
  · rw [if_pos e]; exact ⟨fun h => by omega, fun h => absurd e h.1⟩
  · rw [if_neg e]; exact ⟨fun h => ⟨e, h⟩, fun h => h.2⟩
omit v in
theorem hk_ids : (hk h l).ids.length = l.length := by simp [hk]
/-! Chains. -/
end
end Go.Proofs.Ytdbogmmdogjhpaa
set_option maxRecDepth 20000
set_option maxHeartbeats 1000000
set_option linter.unusedVariables false
set_option linter.unusedSimpArgs false
namespace Go.Proofs.Ytdbogmmdogjhpaa
open Go Go.Sx
open Go.Rx (ixA)
namespace S
abbrev RC (h : Hunt) (l : List Filing) (s : Int) (i k : Nat) : Prop := Rc l.length (w h l) s i k
end S
open S
section
variable {h : Hunt} {l : List Filing} (v : Vd h l)
include v
omit v in
theorem ids_at {i : Nat} {Q : Int → Prop} (hi : i < l.length) (q : Q ((ids l).getD i 0)) : Ret (ixo (ids l) (i : Int)) Q := by
  refine ixR (by simpa [ids] using hi) ?_
  have hl : i < (ids l).length := by simpa [ids] using hi
  have : (ids l).getD i 0 = (ids l)[i] := by simp [List.getD, hl]
  rwa [this] at q
omit v in
theorem id_at {i : Nat} (hi : i < l.length) : (ids l).getD i 0 = l[i].id := by simp [List.getD, ids, hi]
end
/-! The reference. -/
namespace S
def tb (N : Nat) (f : Nat → Int) : List Int := (List.range N).map f
def upd (f : Nat → Int) (k : Nat) (x : Int) : Nat → Int := fun a => if a = k then x else f a
theorem tb_len (N : Nat) (f : Nat → Int) : (tb N f).length = N := by simp [tb]
theorem tb_get {N : Nat} {f : Nat → Int} {k : Nat} (hk : k < N) : (tb N f)[k]? = some (f k) := by
  unfold tb
  rw [List.getElem?_map, List.getElem?_range hk]; rfl
theorem tb_set {N : Nat} {f : Nat → Int} {k : Nat} {x : Int} (hk : k < N) : (tb N f).set k x = tb N (upd f k x) := by
  apply List.ext_getElem?
  intro t
  rw [List.getElem?_set]
  rcases Nat.lt_or_ge t N with ht | ht
  · rw [tb_get ht, tb_get ht, tb_len]
    unfold upd
    by_cases e : k = t
    · rw [if_pos e, if_pos hk, if_pos e.symm]
    · rw [if_neg e, if_neg fun e2 => e e2.symm]
  · rw [List.getElem?_eq_none (by rw [tb_len]; omega), List.getElem?_eq_none (by rw [tb_len]; omega), if_neg (by omega)]
theorem tb_ext {N : Nat} {f g : Nat → Int} (h : ∀ a < N, f a = g a) : tb N f = tb N g := List.map_congr_left fun t ht => h t (List.mem_range.1 ht)
end S
theorem r_tb {N : Nat} {f : Nat → Int} {k : Nat} {Q : Int → Prop} (hk : k < N) (q : Q (f k)) : Ret (ixo (tb N f) (k : Int)) Q := Ret.ixo (tb_get hk) q
theorem r_tbS {N : Nat} {f : Nat → Int} {k : Nat} {x : Int} {Q : List Int → Prop} (hk : k < N) (q : Q (tb N (upd f k x))) : Ret (seto (tb N f) (k : Int) x) Q := Ret.seto (by rw [tb_len]; exact hk) (by rw [tb_set hk]; exact q)
section
variable {h : Hunt} {l : List Filing} (v : Vd h l)
include v
theorem r_steps {i : Nat} (hi : i < l.length) (s : Int) : Ret (P.ref08_steps h l i s) (· = tb l.length (dI l.length (w h l) s i)) := by
  have hlen := v.len
  unfold P.ref08_steps
  refine Ret.bind <| Ret.mko (by omega) (by omega) ?_
  have e0 : List.replicate l.length (0 : Int) = tb l.length (fun _ => 0) := by unfold tb; rw [List.map_const']; simp
  rw [e0]
  refine Ret.bindM (Q' := fun r => r = tb l.length (fun _ => -1)) (Ret.upto l.length (fun n (t : Int × List Int) => t = ((n : Int), tb l.length (fun a => if a < n then -1 else 0))) (by simp) ?_ ?_) ?_
  · rintro n hn _ rfl
    dsimp only
    refine Ret.condT (by rw [tb_len]; exact lt_cast hn) <| Ret.bind <| r_tb hn <| Ret.bind <| r_tbS hn <| Ret.bind <| Ret.chk (by omega) <| Ret.next ?_
    show ((n : Int) + 1, _) = (((n + 1 : Nat) : Int), _)
    congr 1
    refine tb_ext fun a ha => ?_
    unfold upd
    dsimp only
    by_cases e : a = n
    · rw [if_pos e, if_pos (by omega)]
    · rw [if_neg e]
      by_cases e2 : a < n
      · rw [if_pos e2, if_pos (by omega)]
      · rw [if_neg e2, if_neg (by omega)]
  · rintro _ rfl
    dsimp only
    refine Ret.condF (by rw [tb_len]; exact not_lt_cast) <| Ret.done <| tb_ext fun a ha => by rw [if_pos ha]
  rintro _ rfl
  refine Ret.bind <| r_tb hi <| Ret.bind <| r_tbS hi ?_
  generalize hD : dI l.length (w h l) s i = D
  have d0 : D i = 0 := by rw [← hD]; exact dI_self
  have dl : ∀ k, D k < l.length := fun k => by rw [← hD]; exact dI_lt hi
  have dg : ∀ k, -1 ≤ D k := fun k => by rw [← hD]; exact dI_ge
  have dz : ∀ k, D k = 0 → k = i := fun k hk => by
    rcases dI_cases l.length (w h l) s i k with ⟨m, h1, h2⟩ | ⟨_, h2⟩
    · rw [← hD, h2] at hk
      have : m = 0 := by omega
      subst this; exact h1.1
    · rw [← hD, h2] at hk; cases hk
  have ds : ∀ (n j k : Nat), D j = n → j < l.length → k < l.length → s ≤ w h l j k → 0 ≤ D k ∧ D k ≤ n + 1 := fun n j k h1 h2 h3 h4 => by rw [← hD] at h1 ⊢; exact dI_step h1 ⟨h2, h3, h4⟩
  have dp : ∀ (n k : Nat), D k = (n : Int) + 1 → ∃ j, j < l.length ∧ D j = n ∧ s ≤ w h l j k := fun n k h1 => by
    rw [← hD] at h1
    obtain ⟨j, h2, h3⟩ := dI_pred h1
    exact ⟨j, h3.1, by rw [← hD]; exact h2, h3.2.2⟩
  refine Ret.bindM (Q' := fun r => r = tb l.length D) (Ret.upto l.length (fun n (t : Int × List Int) => t = ((n : Int), tb l.length (fun a => if D a ≤ n then D a else -1))) ?_ ?_ ?_) fun r hr => Ret.ok hr
  · show ((0 : Int), _) = (((0 : Nat) : Int), _)
    congr 1
    refine tb_ext fun a ha => ?_
    unfold upd
    dsimp only
    by_cases e : a = i
    · rw [if_pos e, e, d0]; rfl
    · rw [if_neg e]
      have h1 := mt (dz a) e
      have h2 := dg a
      by_cases e2 : D a ≤ ((0 : Nat) : Int)
      · rw [if_pos e2]; omega
      · rw [if_neg e2]
  · rintro n hn _ rfl
    dsimp only
    refine Ret.condT (lt_cast hn) ?_
    refine Ret.bindM (Q' := fun r => r = tb l.length (fun a => if D a ≤ ((n + 1 : Nat) : Int) then D a else -1)) (Ret.upto l.length (fun j (t : Int × List Int) => t = ((j : Int), tb l.length (fun a => if D a ≤ n then D a else if ∃ x < j, D x = n ∧ s ≤ w h l x a then (n : Int) + 1 else -1))) ?_ ?_ ?_) ?_
    · show ((0 : Int), _) = (((0 : Nat) : Int), _)
      congr 1
    · rintro j hj _ rfl
      dsimp only
      refine Ret.condT (lt_cast hj) ?_
      refine Ret.bindM (Q' := fun r => r = tb l.length (fun a => if D a ≤ n then D a else if ∃ x < j + 1, D x = n ∧ s ≤ w h l x a then (n : Int) + 1 else -1)) (Ret.bind <| r_tb hj <| Ret.cond (fun hc => Ret.ok ?_) (fun hc => ?_)) ?_
      · have hne : D j ≠ n := fun e => by
          rw [if_pos (by omega)] at hc
          simp [e] at hc
        refine tb_ext fun a ha => ?_
        by_cases e : D a ≤ n
        · rw [if_pos e, if_pos e]
        · rw [if_neg e, if_neg e]
          by_cases e2 : ∃ x < j, D x = n ∧ s ≤ w h l x a
          · obtain ⟨x, h1, h2⟩ := e2
            rw [if_pos ⟨x, h1, h2⟩, if_pos ⟨x, by omega, h2⟩]
          · rw [if_neg e2, if_neg]
            rintro ⟨x, h1, h2, h3⟩
            by_cases e3 : x = j
            · subst e3; exact hne h2
            · exact e2 ⟨x, by omega, h2, h3⟩
      · have hjn : D j = n := by
          have hc : ¬ ¬ ((if D j ≤ n then D j else if ∃ x < j, D x = n ∧ s ≤ w h l x j then (n : Int) + 1 else -1) = n) := by simpa using hc
          have hc := Classical.not_not.1 hc
          by_cases e : D j ≤ n
          · rw [if_pos e] at hc; exact hc
          · rw [if_neg e] at hc
            split at hc <;> omega
        refine Ret.bindM (Q' := fun r => r = tb l.length (fun a => if D a ≤ n then D a else if ∃ x < j + 1, D x = n ∧ s ≤ w h l x a then (n : Int) + 1 else -1)) (Ret.upto l.length (fun k (t : Int × List Int) => t = ((k : Int), tb l.length (fun a => if D a ≤ n then D a else if (∃ x < j, D x = n ∧ s ≤ w h l x a) ∨ (a < k ∧ s ≤ w h l j a) then (n : Int) + 1 else -1))) ?_ ?_ ?_) fun r hr => Ret.ok hr
        · show ((0 : Int), _) = (((0 : Nat) : Int), _)
          congr 1
          refine tb_ext fun a ha => ?_
          simp
        · rintro k hk' _ rfl
          dsimp only
          refine Ret.condT (lt_cast hk') ?_
          refine Ret.bindM (Q' := fun b => b = decide (¬ D k ≤ n ∧ ¬ (∃ x < j, D x = n ∧ s ≤ w h l x k) ∧ s ≤ w h l j k)) (Ret.bind <| r_tb hk' <| Ret.cond (fun hc => ?_) (fun hc => Ret.ok ?_)) ?_
          · refine Ret.bindM (r_weight v hj hk') ?_
            rintro _ rfl
            refine Ret.ok ?_
            rw [decide_eq_decide]
            have hc := of_decide_eq_true hc
            constructor
            · intro hs
              refine ⟨fun h1 => ?_, fun h1 => ?_, hs⟩
              · rw [if_pos h1] at hc
                have := ds n j k hjn hj hk' hs; omega
              · have hx : ¬ D k ≤ n := fun h2 => by
                  rw [if_pos h2] at hc
                  have := ds n j k hjn hj hk' hs; omega
                rw [if_neg hx, if_pos (.inl h1)] at hc
                omega
            · exact fun h => h.2.2
          · have hc := of_decide_eq_false hc
            refine (decide_eq_false ?_).symm
            rintro ⟨h1, h2, h3⟩
            rw [if_neg h1, if_neg] at hc
            · omega
            · rintro (h4 | ⟨h4, _⟩)
              · exact h2 h4
              · omega
          rintro _ rfl
          refine Ret.bindM (Q' := fun r => r = tb l.length (fun a => if D a ≤ n then D a else if (∃ x < j, D x = n ∧ s ≤ w h l x a) ∨ (a < k + 1 ∧ s ≤ w h l j a) then (n : Int) + 1 else -1)) (Ret.cond (fun hb => ?_) (fun hb => Ret.ok ?_)) ?_
          · obtain ⟨h1, h2, h3⟩ := of_decide_eq_true hb
            refine Ret.bind <| Ret.chk (by omega) <| Ret.bind <| r_tb hk' <| Ret.bind <| r_tbS hk' <| Ret.ok <| tb_ext fun a ha => ?_
            unfold upd
            dsimp only
            by_cases e : a = k
            · subst e
              rw [if_pos rfl, if_neg h1, if_pos (.inr ⟨by omega, h3⟩)]
            · rw [if_neg e]
              by_cases e2 : D a ≤ n
              · rw [if_pos e2, if_pos e2]
              · rw [if_neg e2, if_neg e2]
                by_cases e3 : (∃ x < j, D x = n ∧ s ≤ w h l x a) ∨ (a < k ∧ s ≤ w h l j a)
                · rw [if_pos e3, if_pos (e3.imp id fun h => ⟨by omega, h.2⟩)]
                · rw [if_neg e3, if_neg]
                  rintro (h4 | ⟨h4, h5⟩)
                  · exact e3 (.inl h4)
                  · exact e3 (.inr ⟨by omega, h5⟩)
          · have hb := of_decide_eq_false hb
            refine tb_ext fun a ha => ?_
            by_cases e2 : D a ≤ n
            · rw [if_pos e2, if_pos e2]
            · rw [if_neg e2, if_neg e2]
              by_cases e3 : (∃ x < j, D x = n ∧ s ≤ w h l x a) ∨ (a < k ∧ s ≤ w h l j a)
              · rw [if_pos e3, if_pos (e3.imp id fun h => ⟨by omega, h.2⟩)]
              · rw [if_neg e3, if_neg]
                rintro (h4 | ⟨h4, h5⟩)
                · exact e3 (.inl h4)
                · by_cases e4 : a = k
                  · subst e4
                    exact hb ⟨e2, fun h6 => e3 (.inl h6), h5⟩
                  · exact e3 (.inr ⟨by omega, h5⟩)
          · rintro _ rfl
            exact Ret.bind <| Ret.chk (by omega) <| Ret.next rfl
        · rintro _ rfl
          dsimp only
          refine Ret.condF not_lt_cast <| Ret.done <| tb_ext fun a ha => ?_
          by_cases e2 : D a ≤ n
          · rw [if_pos e2, if_pos e2]
          · rw [if_neg e2, if_neg e2]
            by_cases e3 : (∃ x < j, D x = n ∧ s ≤ w h l x a) ∨ (a < l.length ∧ s ≤ w h l j a)
            · rw [if_pos e3, if_pos]
              rcases e3 with ⟨x, h1, h2⟩ | ⟨_, h2⟩
              · exact ⟨x, by omega, h2⟩
              · exact ⟨j, by omega, hjn, h2⟩
            · rw [if_neg e3, if_neg]
              rintro ⟨x, h1, h2, h3⟩
              by_cases e4 : x = j
              · subst e4; exact e3 (.inr ⟨ha, h3⟩)
              · exact e3 (.inl ⟨x, by omega, h2, h3⟩)
      · rintro _ rfl
        exact Ret.bind <| Ret.chk (by omega) <| Ret.next rfl
    · rintro _ rfl
      dsimp only
      refine Ret.condF not_lt_cast <| Ret.done <| tb_ext fun a ha => ?_
      by_cases e : D a ≤ n
      · rw [if_pos e, if_pos (by omega)]
      · rw [if_neg e]
        by_cases e2 : D a = (n : Int) + 1
        · obtain ⟨x, h1, h2, h3⟩ := dp n a e2
          rw [if_pos ⟨x, h1, h2, h3⟩, if_pos (by omega), e2]
        · rw [if_neg, if_neg (by omega)]
          rintro ⟨x, h1, h2, h3⟩
          have := ds n x a h2 h1 ha h3
          omega
    · rintro _ rfl
      exact Ret.bind <| Ret.chk (by omega) <| Ret.next rfl
  · rintro _ rfl
    dsimp only
    refine Ret.condF not_lt_cast <| Ret.done <| tb_ext fun a ha => ?_
    have := dl a
    rw [if_pos (by omega)]
end
end Go.Proofs.Ytdbogmmdogjhpaa
set_option maxRecDepth 20000
set_option maxHeartbeats 1000000
set_option linter.unusedVariables false
set_option linter.unusedSimpArgs false
namespace Go.Proofs.Ytdbogmmdogjhpaa
open Go Go.Sx
open Go.Rx (ixA)
namespace S
/-! What is picked of the first numbers. -/
open Classical in
noncomputable def fr (p : Nat → Prop) (n : Nat) : List Nat := (List.range n).filter fun k => decide (p k)
theorem fr_succ {p : Nat → Prop} {n : Nat} : fr p (n + 1) = fr p n ++ (open Classical in if p n then [n] else []) := by
  unfold fr
  rw [List.range_succ, List.filter_append]
  congr 1
  by_cases h : p n <;> simp [h]
theorem fr_in {p : Nat → Prop} {n : Nat} (h : p n) : fr p (n + 1) = fr p n ++ [n] := by rw [fr_succ, if_pos h]
theorem fr_out {p : Nat → Prop} {n : Nat} (h : ¬ p n) : fr p (n + 1) = fr p n := by rw [fr_succ, if_neg h, List.append_nil]
theorem mem_fr {p : Nat → Prop} {n k : Nat} : k ∈ fr p n ↔ k < n ∧ p k := by unfold fr; simp
theorem fr_len {p : Nat → Prop} {n : Nat} : (fr p n).length ≤ n := by
  have := List.length_filter_le (fun k => (open Classical in decide (p k))) (List.range n)
  simpa [fr] using this
theorem fr_lt {p : Nat → Prop} {n : Nat} : (fr p n).Pairwise (· < ·) := List.pairwise_lt_range.filter _
theorem fr_nodup {p : Nat → Prop} {n : Nat} : (fr p n).Nodup := List.nodup_range.filter _
theorem fr_sub {p q : Nat → Prop} {n : Nat} (h : ∀ k < n, p k → q k) : (fr p n).length ≤ (fr q n).length :=
  sub_len _ _ fr_nodup fun k hk => mem_fr.2 ⟨(mem_fr.1 hk).1, h k (mem_fr.1 hk).1 (mem_fr.1 hk).2⟩
theorem fr_less {p q : Nat → Prop} {n a : Nat} (h : ∀ k < n, p k → q k) (ha : a < n) (h1 : q a) (h2 : ¬ p a) : (fr p n).length < (fr q n).length := by
  have h3 : (a :: fr p n).length ≤ (fr q n).length := sub_len _ _ (List.nodup_cons.2 ⟨fun h => h2 (mem_fr.1 h).2, fr_nodup⟩) fun k hk => by
    rcases List.mem_cons.1 hk with rfl | hk
    · exact mem_fr.2 ⟨ha, h1⟩
    · exact mem_fr.2 ⟨(mem_fr.1 hk).1, h k (mem_fr.1 hk).1 (mem_fr.1 hk).2⟩
  exact h3
theorem fr_congr {p q : Nat → Prop} {n : Nat} (h : ∀ k < n, (p k ↔ q k)) : fr p n = fr q n := by
  unfold fr
  refine List.filter_congr fun k hk => ?_
  have := h k (List.mem_range.1 hk)
  by_cases e : p k
  · simp [e, this.1 e]
  · simp [e, mt this.2 e]
/-! Groups. -/
def idA (l : List Filing) (k : Nat) : Int := (ids l).getD k 0
noncomputable def gr (h : Hunt) (l : List Filing) (s : Int) (i : Nat) : List Nat := fr (RC h l s i) l.length
noncomputable def grp (h : Hunt) (l : List Filing) (s : Int) (i : Nat) : List Int := (gr h l s i).map (idA l)
def Head (h : Hunt) (l : List Filing) (s : Int) (i : Nat) : Prop := (∀ k < i, ¬ RC h l s i k) ∧ h.size ≤ ((gr h l s i).length : Int)
noncomputable def rgs (h : Hunt) (l : List Filing) (s : Int) : List (List Int) := (fr (Head h l s) l.length).map (grp h l s)
noncomputable def Rings (h : Hunt) (l : List Filing) (s : Int) : List (List Int) × Int := if check h l = 0 then (if inB 1 6001 s then (rgs h l s, 0) else ([], 2)) else ([], check h l)
theorem mem_gr {h : Hunt} {l : List Filing} {s : Int} {i k : Nat} : k ∈ gr h l s i ↔ k < l.length ∧ RC h l s i k := mem_fr
end S
open S
section
variable {h : Hunt} {l : List Filing} (v : Vd h l)
include v
theorem idA_lt {i k : Nat} (hi : i < k) (hk' : k < l.length) : idA l i < idA l k := by
  have h1 := List.pairwise_iff_getElem.1 v.ids i k (by rw [List.length_map]; omega) (by rw [List.length_map]; omega) hi
  have e : ∀ j (hj : j < l.length), idA l j = (l.map (·.id))[j]'(by rw [List.length_map]; omega) := fun j hj => by
    unfold idA; rw [id_at hj]; simp
  rw [e i (by omega), e k hk']
  exact h1
theorem idA_inj {i k : Nat} (hi : i < l.length) (hk' : k < l.length) (e : idA l i = idA l k) : i = k := by
  rcases Nat.lt_trichotomy i k with h1 | h1 | h1
  · have := idA_lt v h1 hk'; omega
  · exact h1
  · have := idA_lt v h1 hi; omega
theorem gr_head {s : Int} {i : Nat} (hi : i < l.length) : ∃ a r, gr h l s i = a :: r ∧ a < l.length ∧ (idA l a = idA l i ↔ ∀ k < i, ¬ RC h l s i k) := by
  have h0 : i ∈ gr h l s i := mem_gr.2 ⟨hi, .refl⟩
  have h1 : (gr h l s i).Pairwise (· < ·) := fr_lt
  cases hg : gr h l s i with
  | nil => rw [hg] at h0; cases h0
  | cons a r =>
    rw [hg] at h0 h1
    have ha : a ∈ gr h l s i := by rw [hg]; exact List.mem_cons_self ..
    have hle : ∀ k ∈ gr h l s i, a ≤ k := fun k hk => by
      rw [hg] at hk
      rcases List.mem_cons.1 hk with rfl | hk
      · exact Nat.le_refl _
      · exact Nat.le_of_lt ((List.pairwise_cons.1 h1).1 k hk)
    refine ⟨a, r, rfl, (mem_gr.1 ha).1, fun e k hk hr => ?_, fun hh => ?_⟩
    · have e := idA_inj v (mem_gr.1 ha).1 hi e
      have := hle k (mem_gr.2 ⟨by omega, hr⟩)
      omega
    · have h2 := hle i (mem_gr.2 ⟨hi, .refl⟩)
      rcases Nat.lt_or_ge a i with h3 | h3
      · exact absurd (mem_gr.1 ha).2 (hh a h3)
      · have : a = i := by omega
        rw [this]
theorem r_refGroup {i : Nat} (hi : i < l.length) (s : Int) : Ret (P.ref08_group h l i s) (· = grp h l s i) := by
  have hlen := v.len
  unfold P.ref08_group
  refine Ret.bindM (r_steps v hi s) ?_
  rintro _ rfl
  refine Ret.bindM (Q' := fun r => r = grp h l s i) (Ret.upto l.length (fun n (t : List Int × Int) => t = ((fr (RC h l s i) n).map (idA l), (n : Int))) rfl ?_ ?_) fun r hr => Ret.ok hr
  · rintro n hn _ rfl
    have hfl := fr_len (p := RC h l s i) (n := n)
    dsimp only
    refine Ret.condT (lt_cast hn) <| Ret.bind <| r_tb hn <| Ret.bindM (Q' := fun r => r = (fr (RC h l s i) (n + 1)).map (idA l)) (Ret.cond (fun hc => ?_) (fun hc => Ret.ok ?_)) ?_
    · have hc := dI_pos.1 (of_decide_eq_true hc)
      refine Ret.bind <| ixR hn <| Ret.bind <| Ret.appo (by simp; omega) (by simp; omega) <| Ret.ok ?_
      rw [fr_in hc, List.map_append, ← id_at hn]; rfl
    · have hc : ¬ RC h l s i n := fun h => of_decide_eq_false hc (dI_pos.2 h)
      rw [fr_out hc]
    · rintro _ rfl
      exact Ret.bind <| Ret.chk (by omega) <| Ret.next rfl
  · rintro _ rfl
    exact Ret.condF not_lt_cast <| Ret.done rfl
theorem r_refRings0 (s : Int) : Ret (P.ref08_rings h l s) (· = rgs h l s) := by
  have hlen := v.len
  unfold P.ref08_rings
  refine Ret.bindM (Q' := fun r => r = rgs h l s) (Ret.upto l.length (fun n (t : List (List Int) × Int) => t = ((fr (Head h l s) n).map (grp h l s), (n : Int))) rfl ?_ ?_) fun r hr => Ret.ok hr
  · rintro n hn _ rfl
    have hfl := fr_len (p := Head h l s) (n := n)
    obtain ⟨a, r, hg, ha, hh⟩ := gr_head v (s := s) hn
    have hgp : grp h l s n = idA l a :: r.map (idA l) := by unfold grp; rw [hg]; rfl
    have hgl : (grp h l s n).length = (gr h l s n).length := by unfold grp; simp
    dsimp only
    refine Ret.condT (lt_cast hn) <| Ret.bindM (r_refGroup v hn s) ?_
    rintro _ rfl
    refine Ret.bindM (Q' := fun b => b = true ↔ Head h l s n) (Ret.bind <| Ret.ixo (i := 0) (y := idA l a) (by rw [hgp]; rfl) <| Ret.bind <| ixR hn <| Ret.cond (fun hc => Ret.ok ?_) (fun hc => Ret.ok ?_)) ?_
    · have hc := of_decide_eq_true hc
      have hc : idA l a = idA l n := by rw [hc]; exact (id_at hn).symm
      have := hh.1 hc
      rw [hgl, decide_eq_true_iff]
      exact ⟨fun e => ⟨this, e⟩, fun e => e.2⟩
    · have hc := of_decide_eq_false hc
      have hc : ¬ idA l a = idA l n := fun e => hc (e.trans (id_at hn))
      exact ⟨(fun e => by cases e), fun x => absurd (hh.2 x.1) hc⟩
    · intro b hb
      refine Ret.bindM (Q' := fun r => r = (fr (Head h l s) (n + 1)).map (grp h l s)) (Ret.cond (fun hc => ?_) (fun hc => Ret.ok ?_)) ?_
      · refine Ret.bind <| Ret.appo (by simp; omega) (by simp; omega) <| Ret.ok ?_
        rw [fr_in (hb.1 hc), List.map_append]; rfl
      · rw [fr_out (fun e => by rw [hb.2 e] at hc; cases hc)]
      · rintro _ rfl
        exact Ret.bind <| Ret.chk (by omega) <| Ret.next rfl
  · rintro _ rfl
    exact Ret.condF not_lt_cast <| Ret.done rfl
end
theorem r_refRings (h : Hunt) {l : List Filing} (hl : l.length ≤ 30) (hp : ∀ f ∈ l, f.parts.length ≤ 20) (s : Int) : Ret (P.ref08_Rings h l s) (· = Rings h l s) := by
  unfold P.ref08_Rings Rings
  refine Ret.bindM (r_refCheck hl hp) ?_
  rintro _ rfl
  refine Ret.cond (fun hc => Ret.ok ?_) (fun hc => ?_)
  · rw [if_neg (by simpa using hc)]
  · have hc : check h l = 0 := by simpa using hc
    rw [if_pos hc]
    refine Ret.bind <| r_within1 <| Ret.cond (fun h1 => Ret.ok ?_) (fun h1 => ?_)
    · rw [if_neg (by simpa using h1)]
    · rw [if_pos (by simpa using h1)]
      exact Ret.bindM (r_refRings0 (check_iff.1 hc) s) fun r hr => Ret.ok (by rw [hr])
end Go.Proofs.Ytdbogmmdogjhpaa
set_option maxRecDepth 20000
set_option maxHeartbeats 1000000
set_option linter.unusedVariables false
set_option linter.unusedSimpArgs false
namespace Go.Proofs.Ytdbogmmdogjhpaa
open Go Go.Sx
open Go.Rx (ixA)
namespace S
def lf (f : FMap Int Bool) (k : Nat) : Prop := (f (k : Int)).getD false = true
def fdels (f : FMap Int Bool) (ys : List Nat) : FMap Int Bool := fun k => if k ∈ zl ys then none else f k
def evy (n : Nat) : FMap Int Bool := fun k => if 0 ≤ k ∧ k < n then some true else none
theorem mem_zl {k : Nat} {ys : List Nat} : (k : Int) ∈ zl ys ↔ k ∈ ys := by
  unfold zl
  rw [List.mem_map]
  exact ⟨fun ⟨a, h1, h2⟩ => by have : a = k := by omega
                               exact this ▸ h1, fun h => ⟨k, h, rfl⟩⟩
theorem lf_dels {f : FMap Int Bool} {ys : List Nat} {k : Nat} : lf (fdels f ys) k ↔ lf f k ∧ k ∉ ys := by
  unfold lf fdels
  by_cases e : k ∈ ys
  · rw [if_pos (mem_zl.2 e)]; simp [e]
  · rw [if_neg (fun h => e (mem_zl.1 h))]; simp [e]
theorem fdels_app {f : FMap Int Bool} {ys zs : List Nat} : fdels (fdels f ys) zs = fdels f (ys ++ zs) := by
  funext k
  unfold fdels
  have : zl (ys ++ zs) = zl ys ++ zl zs := by simp [zl]
  simp only [this, List.mem_append]
  by_cases e : k ∈ zl zs
  · simp [e]
  · by_cases e2 : k ∈ zl ys <;> simp [e, e2]
theorem fdels_one {f : FMap Int Bool} {i : Nat} : fdel f (i : Int) = fdels f [i] := by
  funext k
  unfold fdel fdels
  simp [zl]
theorem fdels_congr {f : FMap Int Bool} {ys zs : List Nat} (h : ∀ k, k ∈ ys ↔ k ∈ zs) : fdels f ys = fdels f zs := by
  funext k
  unfold fdels
  have : k ∈ zl ys ↔ k ∈ zl zs := by
    unfold zl
    simp only [List.mem_map, h]
  by_cases e : k ∈ zl ys
  · rw [if_pos e, if_pos (this.1 e)]
  · rw [if_neg e, if_neg (fun x => e (this.2 x))]
theorem lf_evy {n k : Nat} : lf (evy n) k ↔ k < n := by
  unfold lf evy
  by_cases e : k < n
  · rw [if_pos (by omega)]; simp [e]
  · rw [if_neg (by omega)]; simp [e]
end S
open S
section
variable {h : Hunt} {l : List Filing} (v : Vd h l)
include v
theorem r_vtest {s : Int} {i k : Nat} {f : FMap Int Bool} (hi : i < l.length) (hk' : k < l.length) {Q : Bool → Prop} (q : ∀ b, (b = true ↔ lf f k ∧ s ≤ wm h l i k) → Q b) : Ret (vtest (hk h l) s i k f) Q := by
  have hlen := v.len
  unfold vtest
  refine Ret.cond (fun hc => ?_) (fun hc => Ret.ok (q _ ?_))
  · refine Ret.bind <| r_ixA (by omega) <| Ret.bind <| r_ixA (by omega) <| Ret.bind <| r_tab (by omega) (by omega) <| Ret.ok (q _ ?_)
    rw [decide_eq_true_iff]
    exact ⟨fun e => ⟨hc, e⟩, fun e => e.2⟩
  · exact ⟨(fun e => by cases e), fun e => by have := e.1; unfold lf at this; rw [hc] at this; cases this⟩
theorem r_visit {s : Int} (hs : 1 ≤ s) : ∀ (n i : Nat) (f : FMap Int Bool) (x0 : List Nat), i < l.length → (fr (lf (fdel f i)) l.length).length < n → x0.Nodup → (∀ y ∈ x0, y < l.length ∧ ¬ lf f y ∧ y ≠ i) →
    Ret (P.visit (hk h l) s n i f (zl x0)) fun r => ∃ ys : List Nat, r.2 = zl (x0 ++ ys) ∧ r.1 = fdels f ys ∧ ys.Nodup ∧ i ∈ ys ∧ (∀ y ∈ ys, y < l.length ∧ RC h l s i y ∧ (y = i ∨ lf f y)) ∧ ∀ y ∈ ys, ∀ k, Ed l.length (w h l) s y k → y ≠ k → ¬ lf (fdels f ys) k := by
  have hlen := v.len
  intro n
  induction n with
  | zero => intro i f x0 _ hn; omega
  | succ n ih =>
    intro i f x0 hi hn hx hx0
    have hxl : x0.length ≤ l.length := nodup_len hx fun y hy => (hx0 y hy).1
    unfold P.visit
    have e1 : zl x0 ++ [(i : Int)] = zl (x0 ++ [i]) := zl_snoc x0 i
    refine Ret.bind <| Ret.appo (by simp [zl]; omega) (by simp [zl]; omega) ?_
    rw [e1, fdels_one]
    refine Ret.upto l.length (fun t (st : Int × FMap Int Bool × List Int) => ∃ ys : List Nat, st = ((t : Int), fdels f ys, zl (x0 ++ ys)) ∧ ys.Nodup ∧ i ∈ ys ∧ (∀ y ∈ ys, y < l.length ∧ RC h l s i y ∧ (y = i ∨ lf f y)) ∧ (∀ y ∈ ys, y ≠ i → ∀ k, Ed l.length (w h l) s y k → y ≠ k → ¬ lf (fdels f ys) k) ∧ ∀ k < t, Ed l.length (w h l) s i k → i ≠ k → ¬ lf (fdels f ys) k) ⟨[i], rfl, by simp, by simp, fun y hy => ?_, fun y hy hne => absurd (List.mem_singleton.1 hy) hne, fun k hk => by omega⟩ ?_ ?_
    · rw [List.mem_singleton.1 hy]; exact ⟨hi, .refl, .inl rfl⟩
    · rintro t ht _ ⟨ys, rfl, hnd, hiy, hall, hcl, hcl2⟩
      dsimp only
      refine Ret.condT (by rw [hk_ids]; exact lt_cast ht) <| Ret.bind <| r_vtest v hi ht fun b hb => ?_
      refine Ret.bindM (Q' := fun r => ∃ ys : List Nat, r = (fdels f ys, zl (x0 ++ ys)) ∧ ys.Nodup ∧ i ∈ ys ∧ (∀ y ∈ ys, y < l.length ∧ RC h l s i y ∧ (y = i ∨ lf f y)) ∧ (∀ y ∈ ys, y ≠ i → ∀ k, Ed l.length (w h l) s y k → y ≠ k → ¬ lf (fdels f ys) k) ∧ ∀ k < t + 1, Ed l.length (w h l) s i k → i ≠ k → ¬ lf (fdels f ys) k) (Ret.cond (fun hc => ?_) (fun hc => ?_)) ?_
      · obtain ⟨hl, hw⟩ := hb.1 hc
        obtain ⟨hne, hw⟩ := (wm_le hs).1 hw
        have he : Ed l.length (w h l) s i t := ⟨hi, ht, hw⟩
        obtain ⟨hl0, hty⟩ := lf_dels.1 hl
        have hfu : (fr (lf (fdel (fdels f ys) t)) l.length).length < n := by
          have h1 : (fr (lf (fdel (fdels f ys) t)) l.length).length < (fr (lf (fdels f ys)) l.length).length := fr_less (fun k _ hk => by rw [fdels_one] at hk; exact (lf_dels.1 hk).1) ht hl fun hk => by
            rw [fdels_one] at hk
            exact (lf_dels.1 hk).2 (List.mem_singleton.2 rfl)
          have h2 : (fr (lf (fdels f ys)) l.length).length ≤ (fr (lf (fdel f i)) l.length).length := fr_sub fun k _ hk => by
            rw [fdels_one]
            have := lf_dels.1 hk
            exact lf_dels.2 ⟨this.1, fun e => this.2 (by rw [List.mem_singleton.1 e]; exact hiy)⟩
          omega
        have hxy : (x0 ++ ys).Nodup := List.nodup_append.2 ⟨hx, hnd, fun a ha b hb e => by
          subst e
          rcases (hall a hb).2.2 with e | e
          · exact (hx0 a ha).2.2 e
          · exact (hx0 a ha).2.1 e⟩
        refine (ih t (fdels f ys) (x0 ++ ys) ht hfu hxy fun y hy => ?_).mono ?_
        · rcases List.mem_append.1 hy with hy | hy
          · exact ⟨(hx0 y hy).1, fun e => (hx0 y hy).2.1 (lf_dels.1 e).1, fun e => (hx0 y hy).2.1 (e ▸ hl0)⟩
          · exact ⟨(hall y hy).1, fun e => (lf_dels.1 e).2 hy, fun e => hty (e ▸ hy)⟩
        · rintro ⟨r1, r2⟩ ⟨zs, h1, h2, h3, h4, h5, h6⟩
          dsimp only at h1 h2
          subst h1 h2
          rw [fdels_app] at h6 ⊢
          have mono : ∀ k, lf (fdels f (ys ++ zs)) k → lf (fdels f ys) k := fun k hk => by
            have := lf_dels.1 hk
            exact lf_dels.2 ⟨this.1, fun e => this.2 (List.mem_append_left _ e)⟩
          refine ⟨ys ++ zs, by rw [List.append_assoc], List.nodup_append.2 ⟨hnd, h3, fun a ha b hb e => ?_⟩, List.mem_append_left _ hiy, fun y hy => ?_, fun y hy hyi k hek hyk => ?_, fun k hk hek hik => ?_⟩
          · subst e
            rcases (h5 a hb).2.2 with e | e
            · exact hty (e ▸ ha)
            · exact (lf_dels.1 e).2 ha
          · rcases List.mem_append.1 hy with hy | hy
            · exact hall y hy
            · obtain ⟨a1, a2, a3⟩ := h5 y hy
              refine ⟨a1, (Rc.ed he).trans a2, .inr ?_⟩
              rcases a3 with a3 | a3
              · rw [a3]; exact hl0
              · exact (lf_dels.1 a3).1
          · rcases List.mem_append.1 hy with hy | hy
            · exact fun e => hcl y hy hyi k hek hyk (mono k e)
            · exact h6 y hy k hek hyk
          · by_cases e : k = t
            · subst e
              exact fun e => (lf_dels.1 e).2 (List.mem_append_right _ h4)
            · exact fun e2 => hcl2 k (by omega) hek hik (mono k e2)
      · refine Ret.ok ⟨ys, rfl, hnd, hiy, hall, hcl, fun k hk hek hik => ?_⟩
        by_cases e : k = t
        · subst e
          intro e2
          rw [hb.2 ⟨e2, (wm_le hs).2 ⟨hik, hek.2.2⟩⟩] at hc
          cases hc
        · exact hcl2 k (by omega) hek hik
      · rintro _ ⟨ys, rfl, hr⟩
        exact Ret.bind <| Ret.chk (by omega) <| Ret.next ⟨ys, rfl, hr⟩
    · rintro _ ⟨ys, rfl, hnd, hiy, hall, hcl, hcl2⟩
      dsimp only
      refine Ret.condF (by rw [hk_ids]; exact not_lt_cast) <| Ret.done ⟨ys, rfl, rfl, hnd, hiy, hall, fun y hy k hek hyk => ?_⟩
      by_cases e : y = i
      · subst e; exact hcl2 k hek.2.1 hek hyk
      · exact hcl y hy e k hek hyk
theorem zl_rise {xs : List Nat} (h : xs.Pairwise (· < ·)) : (zl xs).Pairwise (· < ·) := by
  unfold zl
  exact List.pairwise_map.2 (h.imp fun e => by omega)
theorem r_sortO {ys zs : List Nat} (hy : ys.Nodup) (hl : ys.length ≤ 1000000) (hz : zs.Pairwise (· < ·)) (hm : ∀ k, k ∈ ys ↔ k ∈ zs) : sortO (zl ys) = some (zl zs) := by
  unfold sortO
  rw [if_pos (by rw [zl_len]; omega)]
  congr 1
  have hp := List.mergeSort_perm (zl ys) fun a b => decide (a ≤ b)
  have h1 : ((zl ys).mergeSort fun a b => decide (a ≤ b)).Pairwise fun a b => decide (a ≤ b) = true := List.pairwise_mergeSort (fun a b c h1 h2 => by simp at *; omega) (fun a b => by simp; omega) _
  have h2 : ((zl ys).mergeSort fun a b => decide (a ≤ b)).Nodup := hp.nodup_iff.2 (by
    unfold zl
    exact List.pairwise_map.2 (hy.imp fun e h => e (by omega)))
  refine rise_eq ((h1.and h2).imp fun ⟨a, b⟩ => by simp at a; omega) (zl_rise v hz) fun a => ?_
  rw [hp.mem_iff]
  unfold zl
  simp only [List.mem_map, hm]
theorem r_group {s : Int} (hs : 1 ≤ s) {i : Nat} (hi : i < l.length) {f : FMap Int Bool} (hf : lf f i) (hc : ∀ a b, b < l.length → lf f a → RC h l s a b → lf f b) : Ret (P.ring_hunt_group (hk h l) i s f) (· = (zl (gr h l s i), fdels f (gr h l s i))) := by
  have hlen := v.len
  unfold P.ring_hunt_group
  have h0 := fr_len (p := lf (fdel f i)) (n := l.length)
  refine Ret.bindM (r_visit v hs 30 i f [] hi (by omega) List.nodup_nil (fun _ h => by cases h)) ?_
  rintro ⟨r1, r2⟩ ⟨ys, h1, h2, h3, h4, h5, h6⟩
  dsimp only at h1 h2 ⊢
  rw [List.nil_append] at h1
  subst h1 h2
  have hm : ∀ k, k ∈ ys ↔ k ∈ gr h l s i := fun k => by
    refine ⟨fun hk => mem_gr.2 ⟨(h5 k hk).1, (h5 k hk).2.1⟩, fun hk => ?_⟩
    obtain ⟨hk1, hk2⟩ := mem_gr.1 hk
    have key : k ∈ ys ∧ RC h l s i k := Rc.ind (p := fun k => k ∈ ys ∧ RC h l s i k) ⟨h4, .refl⟩ (fun a b ⟨ha, hr⟩ he => by
      have hr2 : RC h l s i b := hr.trans (Rc.ed he)
      refine ⟨?_, hr2⟩
      by_cases e : a = b
      · exact e ▸ ha
      · exact Classical.byContradiction fun hn => h6 a ha b he e (lf_dels.2 ⟨hc i b he.2.1 hf hr2, hn⟩)) hk2
    exact key.1
  have hl2 := nodup_len h3 fun y hy => (h5 y hy).1
  refine Ret.bind <| Ret.val (r_sortO v h3 (by omega) fr_lt hm) <| Ret.ok ?_
  rw [fdels_congr hm]
  rfl
theorem r_everyone : Ret (P.ring_hunt_everyone (hk h l)) (· = evy l.length) := by
  have hlen := v.len
  unfold P.ring_hunt_everyone
  refine Ret.bindM (Q' := fun r => r = evy l.length) (Ret.upto l.length (fun n (t : Int × FMap Int Bool) => t = ((n : Int), evy n)) ?_ ?_ ?_) fun r hr => Ret.ok hr
  · show ((0 : Int), _) = (((0 : Nat) : Int), _)
    congr 1
    funext k
    unfold fnone evy
    rw [if_neg (by omega)]
  · rintro n hn _ rfl
    dsimp only
    refine Ret.condT (by rw [hk_ids]; exact lt_cast hn) <| Ret.bind <| Ret.chk (by omega) <| Ret.next ?_
    show ((n : Int) + 1, _) = (((n + 1 : Nat) : Int), _)
    congr 1
    funext k
    unfold fput evy
    by_cases e : k = n
    · rw [if_pos e, if_pos (by omega)]
    · rw [if_neg e]
      by_cases e2 : 0 ≤ k ∧ k < n
      · rw [if_pos e2, if_pos (by omega)]
      · rw [if_neg e2, if_neg (by omega)]
  · rintro _ rfl
    exact Ret.condF (by rw [hk_ids]; exact not_lt_cast) <| Ret.done rfl
theorem r_named {p : List Nat} (hp : ∀ k ∈ p, k < l.length) (hl : p.length ≤ 1000000) : Ret (P.ring_hunt_named (hk h l) (zl p)) (· = p.map (idA l)) := by
  unfold P.ring_hunt_named
  refine Ret.bindM (Q' := fun r => r = p.map (idA l)) (Ret.upto p.length (fun n (t : Int × List Int) => t = ((n : Int), (p.take n).map (idA l))) rfl ?_ ?_) fun r hr => Ret.ok hr
  · rintro n hn _ rfl
    dsimp only
    refine Ret.condT (by rw [zl_len]; exact lt_cast hn) <| Ret.bind <| Ret.ixo (zl_get (List.getElem?_eq_getElem hn)) <| Ret.bind <| ids_at (hp _ (List.getElem_mem hn)) <| Ret.bind <| Ret.appo (by simp; omega) (by simp; omega) <| Ret.bind <| Ret.chk (by omega) <| Ret.next ?_
    rw [take_succ hn, List.map_append]
    rfl
  · rintro _ rfl
    exact Ret.condF (by rw [zl_len]; exact not_lt_cast) <| Ret.done (by rw [List.take_length])
theorem r_ringRings0 {s : Int} (hs : 1 ≤ s) : Ret (P.ring_hunt_rings (hk h l) s) (· = rgs h l s) := by
  have hlen := v.len
  unfold P.ring_hunt_rings
  refine Ret.bindM (r_everyone v) ?_
  rintro _ rfl
  refine Ret.bindM (Q' := fun r => r = rgs h l s) (Ret.upto l.length (fun n (t : Int × List (List Int) × FMap Int Bool) => ∃ f, t = ((n : Int), (fr (Head h l s) n).map (grp h l s), f) ∧ ∀ k, lf f k ↔ k < l.length ∧ ∀ j < n, ¬ RC h l s j k) ⟨_, rfl, fun k => by rw [lf_evy]; exact ⟨fun e => ⟨e, fun j hj => by omega⟩, fun e => e.1⟩⟩ ?_ ?_) fun r hr => Ret.ok hr
  · rintro n hn _ ⟨f, rfl, hf⟩
    have hfl := fr_len (p := Head h l s) (n := n)
    dsimp only
    refine Ret.condT (by rw [hk_ids]; exact lt_cast hn) ?_
    refine Ret.bindM (Q' := fun r => ∃ f, r = ((fr (Head h l s) (n + 1)).map (grp h l s), f) ∧ ∀ k, lf f k ↔ k < l.length ∧ ∀ j < n + 1, ¬ RC h l s j k) (Ret.cond (fun hc => Ret.ok ?_) (fun hc => ?_)) ?_
    · have hnl : ¬ lf f n := fun e => by unfold lf at e; rw [e] at hc; cases hc
      have hex : ∃ j < n, RC h l s j n := Classical.byContradiction fun hne => hnl ((hf n).2 ⟨hn, fun j hj hr => hne ⟨j, hj, hr⟩⟩)
      obtain ⟨j, hj, hr⟩ := hex
      refine ⟨f, by rw [fr_out fun e => e.1 j hj (hr.sym v.wcomm)], fun k => (hf k).trans ⟨fun e => ⟨e.1, fun a ha => ?_⟩, fun e => ⟨e.1, fun a ha => e.2 a (by omega)⟩⟩⟩
      by_cases e2 : a = n
      · subst e2; exact fun e3 => e.2 j hj (hr.trans e3)
      · exact e.2 a (by omega)
    · have hln : lf f n := by unfold lf; simpa using hc
      have hh : ∀ j < n, ¬ RC h l s n j := fun j hj hr => ((hf n).1 hln).2 j hj (hr.sym v.wcomm)
      refine Ret.bindM (r_group v hs hn hln fun a b hb ha hr => (hf b).2 ⟨hb, fun j hj e => ((hf a).1 ha).2 j hj (e.trans (hr.sym v.wcomm))⟩) ?_
      rintro _ rfl
      have hgl : (gr h l s n).length ≤ l.length := fr_len
      have hfin : ∀ k, lf (fdels f (gr h l s n)) k ↔ k < l.length ∧ ∀ j < n + 1, ¬ RC h l s j k := fun k => by
        rw [lf_dels, hf k]
        refine ⟨fun ⟨⟨e1, e2⟩, e3⟩ => ⟨e1, fun j hj => ?_⟩, fun ⟨e1, e2⟩ => ⟨⟨e1, fun j hj => e2 j (by omega)⟩, fun e => e2 n (by omega) (mem_gr.1 e).2⟩⟩
        by_cases e4 : j = n
        · subst e4; exact fun e5 => e3 (mem_gr.2 ⟨e1, e5⟩)
        · exact e2 j (by omega)
      dsimp only
      refine Ret.bindM (Q' := fun r => r = (fr (Head h l s) (n + 1)).map (grp h l s)) (Ret.cond (fun hc2 => ?_) (fun hc2 => Ret.ok ?_)) ?_
      · have hc2 := of_decide_eq_true hc2
        rw [zl_len] at hc2
        refine Ret.bindM (r_named v (fun k hk => (mem_gr.1 hk).1) (by omega)) ?_
        rintro _ rfl
        refine Ret.bind <| Ret.appo (by simp; omega) (by simp; omega) <| Ret.ok ?_
        rw [fr_in (show Head h l s n from ⟨hh, hc2⟩), List.map_append]; rfl
      · have hc2 := of_decide_eq_false hc2
        rw [zl_len] at hc2
        rw [fr_out fun e => hc2 e.2]
      · rintro _ rfl
        exact Ret.ok ⟨_, rfl, hfin⟩
    · rintro _ ⟨f', rfl, hf'⟩
      exact Ret.bind <| Ret.chk (by omega) <| Ret.next ⟨f', rfl, hf'⟩
  · rintro _ ⟨f, rfl, hf⟩
    exact Ret.condF (by rw [hk_ids]; exact not_lt_cast) <| Ret.done rfl
end
theorem r_ringRings (h : Hunt) {l : List Filing} (hl : l.length ≤ 30) (hp : ∀ f ∈ l, f.parts.length ≤ 20) (s : Int) : Ret (P.ring_Rings h l s) (· = Rings h l s) := by
  unfold P.ring_Rings Rings
  refine Ret.bindM (r_open h hl hp) ?_
  rintro _ rfl
  by_cases hc : check h l = 0
  · rw [if_pos hc, if_pos hc]
    refine Ret.condF rfl <| Ret.bind <| r_in1 <| Ret.cond (fun h1 => Ret.ok ?_) (fun h1 => ?_)
    · rw [if_neg (by simpa using h1)]
    · have h1 : inB 1 6001 s = true := by simpa using h1
      rw [if_pos h1]
      exact Ret.bind <| Ret.ok <| Ret.bindM (r_ringRings0 (check_iff.1 hc) (inB_iff.1 h1).1) fun r hr => Ret.ok (by rw [hr])
  · rw [if_neg hc, if_neg hc]
    exact Ret.condT (by simpa using hc) <| Ret.ok rfl
end Go.Proofs.Ytdbogmmdogjhpaa
set_option maxRecDepth 20000
set_option maxHeartbeats 1000000
set_option linter.unusedVariables false
set_option linter.unusedSimpArgs false
namespace Go.Proofs.Ytdbogmmdogjhpaa
open Go Go.Sx
open Go.Rx (ixA)
theorem r_anyM {S κ α : Type} {f : S → κ × α → Option S} {m : FMap κ α} {l0 : List (κ × α)} (h0 : Lists m l0) {s0 : S} (Spec : S → Prop) (hall : ∀ l, Lists m l → ∃ s, l.foldlM f s0 = some s ∧ Spec s) (uniq : ∀ s s', Spec s → Spec s' → s = s') {Q : S → Prop} (h : ∀ s, Spec s → Q s) : Ret (anyM f m s0) Q := by
  obtain ⟨r, hr, hs⟩ := hall _ h0
  exact ⟨r, anyM_of h0 fun l hl => by
    obtain ⟨s, h1, h2⟩ := hall l hl
    rw [h1, uniq s r h2 hs], h r hs⟩
namespace S
/-- The greatest of some weights. -/
def Mx (W : Nat → Nat → Int) (p : Nat → Nat → Prop) (n : Int) : Prop := 0 ≤ n ∧ (∀ a b, p a b → W a b ≤ n) ∧ (n = 0 ∨ ∃ a b, p a b ∧ W a b = n)
theorem Mx.uniq {W : Nat → Nat → Int} {p : Nat → Nat → Prop} {n m : Int} (h1 : Mx W p n) (h2 : Mx W p m) : n = m := by
  obtain ⟨a1, a2, a3⟩ := h1
  obtain ⟨b1, b2, b3⟩ := h2
  have : n ≤ m := by
    rcases a3 with rfl | ⟨a, b, h, rfl⟩
    · exact b1
    · exact b2 a b h
  have : m ≤ n := by
    rcases b3 with rfl | ⟨a, b, h, rfl⟩
    · exact a1
    · exact a2 a b h
  omega
theorem Mx.congr {W : Nat → Nat → Int} {p q : Nat → Nat → Prop} {n : Int} (h1 : Mx W p n) (h : ∀ a b, p a b ↔ q a b) : Mx W q n :=
  ⟨h1.1, fun a b e => h1.2.1 a b ((h a b).2 e), h1.2.2.imp id fun ⟨a, b, e1, e2⟩ => ⟨a, b, (h a b).1 e1, e2⟩⟩
theorem Mx.none {W : Nat → Nat → Int} {p : Nat → Nat → Prop} (h : ∀ a b, ¬ p a b) : Mx W p 0 := ⟨Int.le_refl _, fun a b e => absurd e (h a b), .inl rfl⟩
theorem Mx.add {W : Nat → Nat → Int} {p q : Nat → Nat → Prop} {n : Int} {i k : Nat} (h1 : Mx W p n) (h : ∀ a b, q a b ↔ p a b ∨ (a = i ∧ b = k)) : Mx W q (max n (W i k)) := by
  obtain ⟨a1, a2, a3⟩ := h1
  refine ⟨by omega, fun a b e => ?_, ?_⟩
  · rcases (h a b).1 e with e | ⟨rfl, rfl⟩
    · have := a2 a b e; omega
    · omega
  · by_cases e : n < W i k
    · exact .inr ⟨i, k, (h i k).2 (.inr ⟨rfl, rfl⟩), by omega⟩
    · have e2 : max n (W i k) = n := by omega
      rw [e2]
      exact a3.imp id fun ⟨a, b, e1, e2⟩ => ⟨a, b, (h a b).2 (.inl e1), e2⟩
/-- Of the group, and not of it. -/
def Out (h : Hunt) (l : List Filing) (s : Int) (i : Nat) (a b : Nat) : Prop := a < l.length ∧ b < l.length ∧ RC h l s i a ∧ ¬ RC h l s i b
def Apart' (h : Hunt) (l : List Filing) (id s : Int) (r : List Int × Int × Int) : Prop :=
  (check h l ≠ 0 ∧ r = ([], 0, check h l)) ∨ (check h l = 0 ∧ id ∉ ids l ∧ r = ([], 0, 6)) ∨ (check h l = 0 ∧ id ∈ ids l ∧ inB 1 6001 s = false ∧ r = ([], 0, 2)) ∨
  (check h l = 0 ∧ inB 1 6001 s = true ∧ ∃ i n, i < l.length ∧ idA l i = id ∧ Mx (w h l) (Out h l s i) n ∧ r = (grp h l s i, n, 0))
theorem idx_at {xs : List Int} {v : Int} (h : v ∈ xs) : ∃ k : Nat, idx xs v = k ∧ k < xs.length ∧ xs.getD k 0 = v := by
  rcases idx_cases xs v with ⟨k, h1, hk, h2⟩ | ⟨_, h2⟩
  · exact ⟨k, h1, hk, by simp [List.getD, hk, h2]⟩
  · exact absurd h h2
end S
open S
theorem r_greatest {n y : Int} {Q : Int → Prop} (q : Q (max n y)) : Ret (P.ring_greatest n [y]) Q := by
  unfold P.ring_greatest
  refine Ret.bindM (Q' := fun r => r = max n y) (Ret.upto 1 (fun t (st : Int × Int) => st = (if t = 0 then n else max n y, (t : Int))) rfl ?_ ?_) fun r hr => Ret.ok (hr ▸ q)
  · rintro t ht _ rfl
    have : t = 0 := by omega
    subst this
    dsimp only
    refine Ret.condT (by simp) <| Ret.bind <| Ret.ixo (i := 0) (y := y) rfl <| Ret.bind <| Ret.chk (by omega) <| Ret.next ?_
    simp
  · rintro _ rfl
    exact Ret.condF (by simp) <| Ret.done (by simp)
section
variable {h : Hunt} {l : List Filing} (v : Vd h l)
include v
theorem r_stepA {i k : Nat} {n : Int} {Q : Int → Prop} (hi : i < l.length) (hk' : k < l.length) (q : Q (max n (wm h l i k))) : Ret (stepA (hk h l) i n k) Q := by
  have hlen := v.len
  unfold stepA
  exact Ret.bind <| r_ixA (by omega) <| Ret.bind <| r_ixA (by omega) <| Ret.bind <| r_tab (by omega) (by omega) <| Ret.bind <| r_greatest <| Ret.ok q
theorem r_farA {s : Int} {i a : Nat} (ha : a < l.length) {n : Int} {p : Nat → Nat → Prop} (hn : Mx (wm h l) p n) : Ret (farA (hk h l) (fdels (evy l.length) (gr h l s i)) a n) (Mx (wm h l) fun x b => p x b ∨ (x = a ∧ b < l.length ∧ b ∉ gr h l s i)) := by
  have hm : ∀ (k : Int) (y : Bool), fdels (evy l.length) (gr h l s i) k = some y ↔ ∃ b : Nat, k = b ∧ b < l.length ∧ b ∉ gr h l s i ∧ y = true := fun k y => by
    unfold fdels evy
    constructor
    · intro e
      split at e
      · cases e
      · rename_i h1
        split at e
        · rename_i h2
          refine ⟨k.toNat, by omega, by omega, fun h3 => h1 ?_, (Option.some.inj e).symm⟩
          have := mem_zl.2 h3
          rwa [show ((k.toNat : Nat) : Int) = k by omega] at this
        · cases e
    · rintro ⟨b, rfl, h1, h2, rfl⟩
      rw [if_neg (fun e => h2 (mem_zl.1 e)), if_pos (by omega)]
  unfold farA
  refine r_anyM (l0 := (fr (fun b => b ∉ gr h l s i) l.length).map fun (b : Nat) => ((b : Int), true)) ⟨?_, fun k y => ?_⟩ (Mx (wm h l) fun x b => p x b ∨ (x = a ∧ b < l.length ∧ b ∉ gr h l s i)) (fun L hL => ?_) (fun _ _ h1 h2 => h1.uniq h2) (fun _ h => h)
  · rw [List.map_map]
    exact List.pairwise_map.2 (fr_nodup.imp fun {a b} e h => e (by have h : (a : Int) = (b : Int) := h; omega))
  · rw [hm]
    simp only [List.mem_map, mem_fr]
    exact ⟨fun ⟨b, ⟨h1, h2⟩, e⟩ => by cases e; exact ⟨b, rfl, h1, h2, rfl⟩, fun ⟨b, h0, h1, h2, h3⟩ => ⟨b, ⟨h1, h2⟩, by rw [h0, h3]⟩⟩
  · have hin : ∀ x ∈ L, ∃ b : Nat, x.1 = b ∧ b < l.length ∧ b ∉ gr h l s i := fun x hx => by
      obtain ⟨b, h1, h2, h3, _⟩ := (hm x.1 x.2).1 ((hL.2 x.1 x.2).1 hx)
      exact ⟨b, h1, h2, h3⟩
    have key : ∀ (L : List (Int × Bool)) (n : Int) (p : Nat → Nat → Prop), (∀ x ∈ L, ∃ b : Nat, x.1 = b ∧ b < l.length ∧ b ∉ gr h l s i) → Mx (wm h l) p n → ∃ m, L.foldlM (fun n (y : Int × Bool) => stepA (hk h l) a n y.1) n = some m ∧ Mx (wm h l) (fun x b => p x b ∨ (x = a ∧ ((b : Int) ∈ L.map (·.1)))) m := by
      intro L
      induction L with
      | nil => exact fun n p _ hn => ⟨n, rfl, hn.congr fun a b => by simp⟩
      | cons x L ih =>
        intro n p hin hn
        obtain ⟨b, h1, h2, h3⟩ := hin x (List.mem_cons_self ..)
        obtain ⟨m, h4, h5⟩ := r_stepA v (n := n) (Q := fun m => m = max n (wm h l a b)) ha h2 rfl
        obtain ⟨m2, h6, h7⟩ := ih m (fun x c => p x c ∨ (x = a ∧ c = b)) (fun y hy => hin y (List.mem_cons_of_mem _ hy)) (h5 ▸ hn.add fun _ _ => Iff.rfl)
        refine ⟨m2, ?_, h7.congr fun c d => ?_⟩
        · rw [List.foldlM_cons, h1, h4]; exact h6
        · rw [List.map_cons, List.mem_cons, h1]
          constructor
          · rintro ((e | ⟨e1, e2⟩) | ⟨e1, e2⟩)
            · exact .inl e
            · exact .inr ⟨e1, .inl (by omega)⟩
            · exact .inr ⟨e1, .inr e2⟩
          · rintro (e | ⟨e1, e2 | e2⟩)
            · exact .inl (.inl e)
            · exact .inl (.inr ⟨e1, by omega⟩)
            · exact .inr ⟨e1, e2⟩
    obtain ⟨m, h1, h2⟩ := key L n p hin hn
    refine ⟨m, h1, h2.congr fun c d => ?_⟩
    have : (d : Int) ∈ L.map (·.1) ↔ d < l.length ∧ d ∉ gr h l s i := by
      rw [List.mem_map]
      constructor
      · rintro ⟨x, hx, e⟩
        obtain ⟨b, h1, h2, h3⟩ := hin x hx
        have : b = d := by omega
        exact this ▸ ⟨h2, h3⟩
      · rintro ⟨e1, e2⟩
        exact ⟨((d : Int), true), (hL.2 _ _).2 ((hm _ _).2 ⟨d, rfl, e1, e2, rfl⟩), rfl⟩
    rw [this]
theorem out_w {s : Int} {i : Nat} {n : Int} (hn : Mx (wm h l) (Out h l s i) n) : Mx (w h l) (Out h l s i) n := by
  have e : ∀ a b, Out h l s i a b → wm h l a b = w h l a b := fun a b ⟨_, _, h1, h2⟩ => by
    unfold wm
    rw [if_neg]
    rintro rfl
    exact h2 h1
  exact ⟨hn.1, fun a b h => by rw [← e a b h]; exact hn.2.1 a b h, hn.2.2.imp id fun ⟨a, b, h1, h2⟩ => ⟨a, b, h1, by rw [← e a b h1]; exact h2⟩⟩
theorem r_apartN {s : Int} {i : Nat} : Ret (apartN (hk h l) (fdels (evy l.length) (gr h l s i)) (zl (gr h l s i))) (Mx (w h l) (Out h l s i)) := by
  have hlen := v.len
  have hgl : (gr h l s i).length ≤ l.length := fr_len
  unfold apartN
  refine Ret.upto (gr h l s i).length (fun t (st : Int × Int) => st.1 = t ∧ Mx (wm h l) (fun a b => a ∈ (gr h l s i).take t ∧ b < l.length ∧ b ∉ gr h l s i) st.2) ⟨rfl, Mx.none fun a b e => by simpa using e.1⟩ ?_ ?_
  · rintro t ht ⟨_, n⟩ ⟨rfl, hn⟩
    have ha := mem_gr.1 (List.getElem_mem ht)
    dsimp only at hn ⊢
    refine Ret.condT (by rw [zl_len]; exact lt_cast ht) <| Ret.bind <| Ret.ixo (zl_get (List.getElem?_eq_getElem ht)) <| Ret.bindM (r_farA v ha.1 hn) fun m hm => Ret.bind <| Ret.chk (by omega) <| Ret.next ⟨rfl, hm.congr fun a b => ?_⟩
    rw [take_succ ht, List.mem_append, List.mem_singleton]
    constructor
    · rintro (⟨e1, e2⟩ | ⟨e1, e2⟩)
      · exact ⟨.inl e1, e2⟩
      · exact ⟨.inr e1, e2⟩
    · rintro ⟨e1 | e1, e2⟩
      · exact .inl ⟨e1, e2⟩
      · exact .inr ⟨e1, e2⟩
  · rintro ⟨_, n⟩ ⟨rfl, hn⟩
    dsimp only at hn ⊢
    refine Ret.condF (by rw [zl_len]; exact not_lt_cast) <| Ret.done (out_w v (hn.congr fun a b => ?_))
    rw [List.take_length, mem_gr, mem_gr]
    exact ⟨fun ⟨⟨e1, e2⟩, e3, e4⟩ => ⟨e1, e3, e2, fun e => e4 ⟨e3, e⟩⟩, fun ⟨e1, e2, e3, e4⟩ => ⟨⟨e1, e3⟩, e2, fun e => e4 e.2⟩⟩
theorem mem_grp {s : Int} {i a : Nat} (ha : a < l.length) : idA l a ∈ grp h l s i ↔ RC h l s i a := by
  unfold grp
  rw [List.mem_map]
  constructor
  · rintro ⟨k, hk', e⟩
    have h1 := mem_gr.1 hk'
    exact idA_inj v h1.1 ha e ▸ h1.2
  · exact fun e => ⟨a, mem_gr.2 ⟨ha, e⟩, rfl⟩
theorem grp_len {s : Int} {i : Nat} : (grp h l s i).length ≤ l.length := by unfold grp; rw [List.length_map]; exact fr_len
theorem ring_Apart0 (id s : Int) : Ret (P.ring_Apart h l id s) (Apart' h l id s) := by
  have hlen := v.len
  have hc : check h l = 0 := check_iff.2 v
  unfold P.ring_Apart
  refine Ret.bindM (r_open0 v) ?_
  rintro _ rfl
  refine Ret.condF rfl <| Ret.bind <| Ret.ok <| Ret.bindM (r_Index (v := id) (by rw [hk_ids]; omega)) ?_
  rintro _ rfl
  show Ret (cond (decide (idx (ids l) id < 0)) _ _) _
  by_cases hm : id ∈ ids l
  · obtain ⟨k, e1, e2, e3⟩ := idx_at hm
    have hk' : k < l.length := by simpa [ids] using e2
    rw [show idx (hk h l).ids id = (k : Int) from e1, e1]
    refine Ret.condF (by simp) <| Ret.bind <| r_in1 <| Ret.cond (fun h1 => Ret.ok ?_) (fun h1 => ?_)
    · exact .inr (.inr (.inl ⟨hc, hm, by simpa using h1, rfl⟩))
    · have h1 : inB 1 6001 s = true := by simpa using h1
      refine Ret.bindM (r_everyone v) ?_
      rintro _ rfl
      refine Ret.bindM (r_group v (inB_iff.1 h1).1 hk' (lf_evy.2 hk') fun a b hb _ _ => lf_evy.2 hb) ?_
      rintro _ rfl
      refine Ret.bindM (r_apartN v) fun n hn => ?_
      have hgl : (gr h l s k).length ≤ l.length := fr_len
      refine Ret.bindM (r_named v (fun a ha => (mem_gr.1 ha).1) (by omega)) ?_
      rintro _ rfl
      exact Ret.ok (.inr (.inr (.inr ⟨hc, h1, k, n, hk', e3, hn, rfl⟩)))
  · rw [idx_none hm]
    exact Ret.condT rfl <| Ret.ok (.inr (.inl ⟨hc, hm, rfl⟩))
theorem ref_Apart0 (id s : Int) : Ret (P.ref08_Apart h l id s) (Apart' h l id s) := by
  have hlen := v.len
  have hc : check h l = 0 := check_iff.2 v
  unfold P.ref08_Apart
  refine Ret.bindM (r_refCheck (by omega) fun f hf => by have := v.prl f hf; omega) ?_
  rintro _ rfl
  rw [hc]
  refine Ret.condF rfl <| Ret.bindM (r_At (v := id) (by omega)) ?_
  rintro _ rfl
  show Ret (cond (decide (idx (ids l) id < 0)) _ _) _
  by_cases hm : id ∈ ids l
  · obtain ⟨k, e1, e2, e3⟩ := idx_at hm
    have hk' : k < l.length := by simpa [ids] using e2
    rw [show idx (l.map (·.id)) id = (k : Int) from e1, e1]
    refine Ret.condF (by simp) <| Ret.bind <| r_within1 <| Ret.cond (fun h1 => Ret.ok ?_) (fun h1 => ?_)
    · exact .inr (.inr (.inl ⟨hc, hm, by simpa using h1, rfl⟩))
    · have h1 : inB 1 6001 s = true := by simpa using h1
      refine Ret.bindM (r_refGroup v hk' s) ?_
      rintro _ rfl
      have hgl := grp_len v (s := s) (i := k)
      have hhas : ∀ {a : Nat} (ha : a < l.length), Ret (P.ref08_has (grp h l s k) l[a].id) fun b => b = true ↔ RC h l s k a := fun {a} ha => (r_has (by omega)).mono fun b hb => by
        rw [hb, decide_eq_true_iff, ← id_at ha]
        exact mem_grp v ha
      refine Ret.bindM (Q' := Mx (w h l) (Out h l s k)) (Ret.upto l.length (fun t (st : Int × Int) => st.2 = t ∧ Mx (w h l) (fun a b => a < t ∧ Out h l s k a b) st.1) ⟨rfl, Mx.none fun a b e => by omega⟩ ?_ ?_) fun n hn => Ret.ok (.inr (.inr (.inr ⟨hc, h1, k, n, hk', e3, hn, rfl⟩)))
      · rintro a ha ⟨n, _⟩ ⟨rfl, hn⟩
        dsimp only at hn ⊢
        refine Ret.condT (lt_cast ha) ?_
        refine Ret.bindM (Q' := Mx (w h l) (fun x b => x < a + 1 ∧ Out h l s k x b)) (Ret.upto l.length (fun t (st : Int × Int) => st.2 = t ∧ Mx (w h l) (fun x b => (x < a ∨ (x = a ∧ b < t)) ∧ Out h l s k x b) st.1) ⟨rfl, hn.congr fun x b => by simp⟩ ?_ ?_) fun m hm => Ret.bind <| Ret.chk (by omega) <| Ret.next ⟨rfl, hm⟩
        · rintro b hb ⟨m, _⟩ ⟨rfl, hm⟩
          dsimp only at hm ⊢
          refine Ret.condT (lt_cast hb) ?_
          refine Ret.bindM (Q' := fun x => x = true ↔ Out h l s k a b) (Ret.bind <| ixR ha <| Ret.bindM (hhas ha) fun x hx => Ret.cond (fun hc1 => Ret.bind <| ixR hb <| Ret.bindM (hhas hb) fun y hy => Ret.ok ?_) (fun hc1 => Ret.ok ?_)) fun x hx => ?_
          · have h2 := hx.1 hc1
            constructor
            · intro e
              refine ⟨ha, hb, h2, fun e2 => ?_⟩
              rw [hy.2 e2] at e; cases e
            · rintro ⟨_, _, _, e⟩
              cases y with
              | false => rfl
              | true => exact absurd (hy.1 rfl) e
          · exact ⟨(fun e => by cases e), fun e => by rw [hx.2 e.2.2.1] at hc1; cases hc1⟩
          · refine Ret.bindM (Q' := Mx (w h l) (fun x c => (x < a ∨ (x = a ∧ c < b + 1)) ∧ Out h l s k x c)) (Ret.cond (fun hc1 => ?_) (fun hc1 => Ret.ok ?_)) fun n2 hn2 => Ret.bind <| Ret.chk (by omega) <| Ret.next ⟨rfl, hn2⟩
            · refine Ret.bindM (r_weight v ha hb) ?_
              rintro _ rfl
              refine Ret.ok (hm.add fun x c => ?_)
              constructor
              · rintro ⟨e1 | ⟨e1, e2⟩, e3⟩
                · exact .inl ⟨.inl e1, e3⟩
                · by_cases e4 : c = b
                  · exact .inr ⟨e1, e4⟩
                  · exact .inl ⟨.inr ⟨e1, by omega⟩, e3⟩
              · rintro (⟨e1 | ⟨e1, e2⟩, e3⟩ | ⟨e1, e2⟩)
                · exact ⟨.inl e1, e3⟩
                · exact ⟨.inr ⟨e1, by omega⟩, e3⟩
                · rw [e1, e2]; exact ⟨.inr ⟨rfl, by omega⟩, hx.1 hc1⟩
            · refine hm.congr fun x c => ⟨fun ⟨e1, e3⟩ => ⟨e1.imp (fun e => e) fun e => ⟨e.1, by omega⟩, e3⟩, fun ⟨e1, e3⟩ => ⟨e1.imp (fun e => e) fun e => ⟨e.1, ?_⟩, e3⟩⟩
              by_cases e4 : c = b
              · rw [e.1, e4] at e3
                rw [hx.2 e3] at hc1; cases hc1
              · omega
        · rintro ⟨m, _⟩ ⟨rfl, hm⟩
          dsimp only at hm ⊢
          refine Ret.condF not_lt_cast <| Ret.done (hm.congr fun x b => ⟨fun ⟨e1, e3⟩ => ⟨by omega, e3⟩, fun ⟨e1, e3⟩ => ⟨?_, e3⟩⟩)
          have := e3.2.1
          omega
      · rintro ⟨n, _⟩ ⟨rfl, hn⟩
        dsimp only at hn ⊢
        exact Ret.condF not_lt_cast <| Ret.done (hn.congr fun a b => ⟨fun e => e.2, fun e => ⟨e.1, e⟩⟩)
  · rw [show idx (l.map (·.id)) id = -1 from idx_none hm, idx_none hm]
    exact Ret.condT rfl <| Ret.ok (.inr (.inl ⟨hc, hm, rfl⟩))
end
theorem r_ringApart (h : Hunt) {l : List Filing} (hl : l.length ≤ 30) (hp : ∀ f ∈ l, f.parts.length ≤ 20) (id s : Int) : Ret (P.ring_Apart h l id s) (Apart' h l id s) := by
  by_cases hc : check h l = 0
  · exact ring_Apart0 (check_iff.1 hc) id s
  · unfold P.ring_Apart
    refine Ret.bindM (r_open h hl hp) ?_
    rintro _ rfl
    rw [if_neg hc]
    exact Ret.condT (by simpa using hc) <| Ret.ok (.inl ⟨hc, rfl⟩)
theorem r_refApart (h : Hunt) {l : List Filing} (hl : l.length ≤ 30) (hp : ∀ f ∈ l, f.parts.length ≤ 20) (id s : Int) : Ret (P.ref08_Apart h l id s) (Apart' h l id s) := by
  by_cases hc : check h l = 0
  · exact ref_Apart0 (check_iff.1 hc) id s
  · unfold P.ref08_Apart
    refine Ret.bindM (r_refCheck hl hp) ?_
    rintro _ rfl
    exact Ret.condT (by simpa using hc) <| Ret.ok (.inl ⟨hc, rfl⟩)
theorem Apart'.uniq {h : Hunt} {l : List Filing} {id s : Int} {r r' : List Int × Int × Int} (h1 : Apart' h l id s r) (h2 : Apart' h l id s r') : r = r' := by
  rcases h1 with ⟨a1, rfl⟩ | ⟨a1, a2, rfl⟩ | ⟨a1, a2, a3, rfl⟩ | ⟨a1, a2, i, n, a3, a4, a5, rfl⟩ <;> rcases h2 with ⟨b1, rfl⟩ | ⟨b1, b2, rfl⟩ | ⟨b1, b2, b3, rfl⟩ | ⟨b1, b2, j, m, b3, b4, b5, rfl⟩ <;> try first | rfl | exact absurd b1 a1 | exact absurd a1 b1 | exact absurd b2 a2 | exact absurd a2 b2
  · exact absurd (b4 ▸ (show idA l j ∈ ids l by unfold idA; rw [id_at b3]; exact List.mem_map_of_mem (List.getElem_mem b3))) a2
  · rw [b2] at a3; cases a3
  · exact absurd (a4 ▸ (show idA l i ∈ ids l by unfold idA; rw [id_at a3]; exact List.mem_map_of_mem (List.getElem_mem a3))) b2
  · rw [a2] at b3; cases b3
  · have : i = j := idA_inj (check_iff.1 a1) a3 b3 (a4.trans b4.symm)
    subst this
    rw [a5.uniq b5]
end Go.Proofs.Ytdbogmmdogjhpaa
set_option maxRecDepth 20000
set_option maxHeartbeats 1000000
set_option linter.unusedVariables false
set_option linter.unusedSimpArgs false
namespace Go.Proofs.Ytdbogmmdogjhpaa
open Go Go.Sx
open Go.Rx (ixA)
namespace S
def cg (h : Hunt) (l : List Filing) (s : Int) (k : Nat) : Prop := h.size ≤ ((gr h l s k).length : Int)
def cb (h : Hunt) (l : List Filing) (good : List Int) (s : Int) (k : Nat) : Prop := cg h l s k ∧ idA l k ∈ good
noncomputable def caught (h : Hunt) (l : List Filing) (s : Int) : Int := (fr (cg h l s) l.length).length
noncomputable def alarms (h : Hunt) (l : List Filing) (good : List Int) (s : Int) : Int := (fr (cb h l good s) l.length).length
def cn (good xs : List Int) : Int × Int := (xs.length, ((xs.filter fun x => decide (x ∈ good)).length : Nat))
theorem cn_snoc {good xs : List Int} {x : Int} : cn good (xs ++ [x]) = ((cn good xs).1 + 1, (cn good xs).2 + if x ∈ good then 1 else 0) := by
  unfold cn
  rw [List.filter_append]
  by_cases e : x ∈ good <;> simp [e]
theorem gr_mono {h : Hunt} {l : List Filing} {s t : Int} (hst : s ≤ t) (k : Nat) : (gr h l t k).length ≤ (gr h l s k).length := fr_sub fun a _ ha => ha.mono hst
theorem cg_mono {h : Hunt} {l : List Filing} {s t : Int} (hst : s ≤ t) {k : Nat} (hk' : cg h l t k) : cg h l s k := by
  have := gr_mono (h := h) (l := l) hst k
  unfold cg at *
  omega
theorem alarms_mono {h : Hunt} {l : List Filing} {good : List Int} {s t : Int} (hst : s ≤ t) : alarms h l good t ≤ alarms h l good s := by
  unfold alarms
  have : (fr (cb h l good t) l.length).length ≤ (fr (cb h l good s) l.length).length := fr_sub fun k _ hk' => ⟨cg_mono hst hk'.1, hk'.2⟩
  omega
def Lst (h : Hunt) (l : List Filing) (good : List Int) (most s : Int) : Prop := 1 ≤ s ∧ s ≤ 6001 ∧ alarms h l good s ≤ most ∧ ∀ t, 1 ≤ t → t < s → most < alarms h l good t
theorem Lst.uniq {h : Hunt} {l : List Filing} {good : List Int} {most s t : Int} (h1 : Lst h l good most s) (h2 : Lst h l good most t) : s = t := by
  obtain ⟨a1, a2, a3, a4⟩ := h1
  obtain ⟨b1, b2, b3, b4⟩ := h2
  rcases Int.lt_trichotomy s t with e | e | e
  · have := b4 s a1 e; omega
  · exact e
  · have := a4 t b1 e; omega
def Gd (l : List Filing) (good : List Int) (most : Int) : Prop := good.Pairwise (· < ·) ∧ (∀ g ∈ good, g ∈ ids l) ∧ 0 ≤ most ∧ most ≤ 24
def Tune' (h : Hunt) (l : List Filing) (good : List Int) (most : Int) (r : Int × Int × Int × Int) : Prop :=
  (check h l ≠ 0 ∧ r = (0, 0, 0, check h l)) ∨ (check h l = 0 ∧ ¬ Gd l good most ∧ r = (0, 0, 0, 2)) ∨ (check h l = 0 ∧ Gd l good most ∧ ∃ s, Lst h l good most s ∧ r = (s, caught h l s, alarms h l good s, 0))
theorem Tune'.uniq {h : Hunt} {l : List Filing} {good : List Int} {most : Int} {r r' : Int × Int × Int × Int} (h1 : Tune' h l good most r) (h2 : Tune' h l good most r') : r = r' := by
  rcases h1 with ⟨a1, rfl⟩ | ⟨a1, a2, rfl⟩ | ⟨a1, a2, s, a3, rfl⟩ <;> rcases h2 with ⟨b1, rfl⟩ | ⟨b1, b2, rfl⟩ | ⟨b1, b2, t, b3, rfl⟩ <;> first | rfl | exact absurd b1 a1 | exact absurd a1 b1 | exact absurd b2 a2 | exact absurd a2 b2 | skip
  rw [a3.uniq b3]
end S
open S
section
variable {h : Hunt} {l : List Filing} (v : Vd h l)
include v
theorem gr_same {s : Int} {i k : Nat} (e : RC h l s i k) : gr h l s i = gr h l s k := fr_congr fun a _ => ⟨fun x => (e.sym v.wcomm).trans x, fun x => e.trans x⟩
theorem rgs_flat (s : Int) : ∃ G : List Nat, (rgs h l s).flatten = G.map (idA l) ∧ G.Perm (fr (cg h l s) l.length) := by
  refine ⟨((fr (Head h l s) l.length).map (gr h l s)).flatten, ?_, ?_⟩
  · unfold rgs
    rw [List.map_flatten, List.map_map]
    rfl
  · refine (List.perm_ext_iff_of_nodup (List.pairwise_flatten.2 ⟨fun x hx => ?_, ?_⟩) fr_nodup).2 fun k => ?_
    · obtain ⟨i, _, rfl⟩ := List.mem_map.1 hx
      exact fr_nodup
    · refine List.pairwise_map.2 ?_
      refine (fr_lt (p := Head h l s) (n := l.length)).imp_of_mem fun {i j} hi hj hij => ?_
      rintro k hk1 _ hk2 rfl
      have h1 := (mem_gr.1 hk1).2
      have h2 := (mem_gr.1 hk2).2
      exact (mem_fr.1 hj).2.1 i hij (h2.trans (h1.sym v.wcomm))
    · rw [List.mem_flatten, mem_fr]
      constructor
      · rintro ⟨x, hx, hk'⟩
        obtain ⟨i, hi, rfl⟩ := List.mem_map.1 hx
        have h1 := mem_gr.1 hk'
        refine ⟨h1.1, ?_⟩
        unfold cg
        rw [← gr_same v h1.2]
        exact (mem_fr.1 hi).2.2
      · rintro ⟨hk1, hk2⟩
        obtain ⟨i, hi, hmin⟩ := least_ex (p := fun i => RC h l s i k) ⟨k, .refl⟩
        have hil : i < l.length := (hi.sym v.wcomm).lt hk1
        refine ⟨gr h l s i, List.mem_map.2 ⟨i, mem_fr.2 ⟨hil, fun j hj e => hmin j hj ((e.sym v.wcomm).trans hi), ?_⟩, rfl⟩, mem_gr.2 ⟨hk1, hi⟩⟩
        rw [gr_same v hi]
        exact hk2
theorem cn_rgs (good : List Int) (s : Int) : cn good (rgs h l s).flatten = (caught h l s, alarms h l good s) := by
  obtain ⟨G, h1, h2⟩ := rgs_flat v s
  rw [h1]
  unfold cn caught alarms
  have e1 : (G.map (idA l)).length = (fr (cg h l s) l.length).length := by rw [List.length_map, h2.length_eq]
  have e2 : ((G.map (idA l)).filter fun x => decide (x ∈ good)).length = (fr (cb h l good s) l.length).length := by
    rw [List.filter_map, List.length_map]
    have h3 := (h2.filter fun k => decide (idA l k ∈ good)).length_eq
    have h4 : (fr (cg h l s) l.length).filter (fun k => decide (idA l k ∈ good)) = fr (cb h l good s) l.length := by
      unfold fr
      rw [List.filter_filter]
      refine List.filter_congr fun k _ => ?_
      by_cases e1 : cg h l s k <;> by_cases e2 : idA l k ∈ good <;> simp [cb, e1, e2]
    rw [h4] at h3
    exact h3
  rw [e1, e2]
theorem flat_len (s : Int) : (rgs h l s).flatten.length ≤ l.length := by
  obtain ⟨G, h1, h2⟩ := rgs_flat v s
  rw [h1, List.length_map, h2.length_eq]
  exact fr_len
omit v in
theorem take_flat {xss : List (List Int)} {n : Nat} (hn : n < xss.length) : (xss.take (n + 1)).flatten = (xss.take n).flatten ++ xss[n] := by
  rw [take_succ hn, List.flatten_append]; simp
omit v in
theorem take_flat_len {xss : List (List Int)} (n : Nat) : (xss.take n).flatten.length ≤ xss.flatten.length := by
  have : xss.flatten = (xss.take n).flatten ++ (xss.drop n).flatten := by rw [← List.flatten_append, List.take_append_drop]
  rw [this, List.length_append]; omega
omit v in
theorem r_Concat {xss : List (List Int)} (h1 : xss.length ≤ 1000) (h2 : xss.flatten.length ≤ 1000) : Ret (P.slices_Concat_63 xss) (· = xss.flatten) := by
  unfold P.slices_Concat_63
  have hle := fun n => take_flat_len (xss := xss) n
  refine Ret.bindM (Q' := fun r => r = (xss.flatten.length : Int)) (Ret.upto xss.length (fun n (t : Int × Int) => t = ((n : Int), (((xss.take n).flatten.length : Nat) : Int))) (by simp) ?_ ?_) ?_
  · rintro n hn _ rfl
    have e1 := hle n
    have e2 := hle (n + 1)
    have e3 : (xss.take (n + 1)).flatten.length = (xss.take n).flatten.length + xss[n].length := by rw [take_flat hn, List.length_append]
    dsimp only
    refine Ret.condT (lt_cast hn) <| Ret.bind <| ixR hn <| Ret.bind <| Ret.chk (by omega) <| Ret.condF (decide_eq_false (by omega)) <| Ret.bind <| Ret.chk (by omega) <| Ret.next ?_
    rw [e3]; simp
  · rintro _ rfl
    exact Ret.condF not_lt_cast <| Ret.done (by rw [List.take_length])
  · rintro _ rfl
    refine Ret.bind <| Ret.val (show P.slices_Grow_74 () (xss.flatten.length : Int) = some [] by unfold P.slices_Grow_74; rw [if_pos (by omega)]) ?_
    refine Ret.bindM (Q' := fun r => r = xss.flatten) (Ret.upto xss.length (fun n (t : Int × List Int) => t = ((n : Int), (xss.take n).flatten)) (by simp) ?_ ?_) fun r hr => Ret.ok hr
    · rintro n hn _ rfl
      have e1 := hle n
      have e2 := hle (n + 1)
      have e3 : (xss.take (n + 1)).flatten.length = (xss.take n).flatten.length + xss[n].length := by rw [take_flat hn, List.length_append]
      dsimp only
      refine Ret.condT (lt_cast hn) <| Ret.bind <| ixR hn <| Ret.bind <| Ret.appo (by omega) (by omega) <| Ret.bind <| Ret.chk (by omega) <| Ret.next ?_
      rw [take_flat hn]; simp
    · rintro _ rfl
      exact Ret.condF not_lt_cast <| Ret.done (by rw [List.take_length])
omit v in
theorem heads_len (s : Int) : (rgs h l s).length ≤ l.length := by unfold rgs; rw [List.length_map]; exact fr_len
theorem r_count {s : Int} (hs : 1 ≤ s) {good : List Int} (hg : good.length ≤ 1000) : Ret (P.ring_Tune_in2 s (some (hk h l)) good) (· = (caught h l s, alarms h l good s)) := by
  have hlen := v.len
  have e1 := heads_len (h := h) (l := l) s
  have e2 := flat_len v s
  unfold P.ring_Tune_in2
  refine Ret.bind <| Ret.ok <| Ret.bindM (r_ringRings0 v hs) ?_
  rintro _ rfl
  refine Ret.bindM (r_Concat (by omega) (by omega)) ?_
  rintro _ rfl
  rw [← cn_rgs v good s]
  generalize (rgs h l s).flatten = xs at e2
  refine Ret.bindM (Q' := fun r => r = cn good xs) (Ret.upto xs.length (fun n (t : Int × Int × Int) => t = ((n : Int), cn good (xs.take n))) rfl ?_ ?_) fun r hr => Ret.ok hr
  · rintro n hn _ rfl
    have e3 : (cn good (xs.take n)).1 ≤ 24 ∧ 0 ≤ (cn good (xs.take n)).1 := by
      unfold cn
      dsimp only
      rw [List.length_take]; omega
    have e4 : (cn good (xs.take n)).2 ≤ 24 ∧ 0 ≤ (cn good (xs.take n)).2 := by
      have := List.length_filter_le (fun x => decide (x ∈ good)) (xs.take n)
      rw [List.length_take] at this
      unfold cn
      dsimp only
      omega
    dsimp only
    refine Ret.condT (lt_cast hn) <| Ret.bind <| ixR hn <| Ret.bind <| Ret.chk (by omega) <| Ret.bindM (r_Contains (by omega)) ?_
    rintro _ rfl
    refine Ret.bindM (Q' := fun r => r = (cn good (xs.take n)).2 + if xs[n] ∈ good then 1 else 0) (Ret.cond (fun hc => Ret.bind <| Ret.chk (by omega) <| Ret.ok ?_) (fun hc => Ret.ok ?_)) ?_
    · rw [if_pos (of_decide_eq_true hc)]
    · rw [if_neg (of_decide_eq_false hc)]; omega
    · rintro _ rfl
      refine Ret.bind <| Ret.chk (by omega) <| Ret.next ?_
      rw [take_succ hn, cn_snoc]
      rfl
  · rintro _ rfl
    exact Ret.condF not_lt_cast <| Ret.done (by rw [List.take_length]; rfl)
theorem rc_top {i k : Nat} (e : RC h l 6001 i k) : k = i := Rc.ind (p := fun k => k = i) rfl (fun a b ha he => by have := (v.win_ a b).2; have := he.2.2; omega) e
theorem alarms_top (good : List Int) : alarms h l good 6001 = 0 := by
  have hsz := v.siz
  unfold alarms
  have : fr (cb h l good 6001) l.length = [] := List.eq_nil_iff_forall_not_mem.2 fun k hk' => by
    have h1 := (mem_fr.1 hk').2.1
    unfold cg at h1
    have h2 : (gr h l 6001 k).length ≤ 1 := sub_len _ [k] fr_nodup fun x hx => List.mem_singleton.2 (rc_top v (mem_gr.1 hx).2)
    omega
  rw [this]; rfl
omit v in
theorem r_least {so : Int → Option Bool} {p : Int → Prop} (hso : ∀ s, 1 ≤ s → s ≤ 6001 → Ret (so s) fun b => b = true ↔ p s) (hp : ∀ s t, s ≤ t → p s → p t) (htop : p 6001) : Ret (P.ring_least_64 1 6001 so) fun r => 1 ≤ r ∧ r ≤ 6001 ∧ p r ∧ ∀ t, 1 ≤ t → t < r → ¬ p t := by
  unfold P.ring_least_64
  refine Ret.bindM (Q' := fun r => 1 ≤ r ∧ r ≤ 6001 ∧ p r ∧ ∀ t, 1 ≤ t → t < r → ¬ p t) (Ret.loop (fun (t : Int × Int) => 1 ≤ t.1 ∧ t.1 ≤ t.2 ∧ t.2 ≤ 6001 ∧ p t.2 ∧ ∀ x, 1 ≤ x → x < t.1 → ¬ p x) (fun t => (t.2 - t.1).toNat) ⟨by decide, by decide, by decide, htop, fun x h1 h2 => absurd h2 (by dsimp only; omega)⟩ ?_) fun r hr => Ret.ok hr
  rintro ⟨lo, hi⟩ ⟨h1, h2, h3, h4, h5⟩
  dsimp only at h1 h2 h3 h4 h5 ⊢
  refine Ret.cond (fun hc => ?_) (fun hc => Ret.done ?_)
  · have hc := of_decide_eq_true hc
    refine Ret.bind <| Ret.chk (by omega) <| Ret.bind <| Ret.quoO (by omega) (by omega) (by omega) <| Ret.bind <| Ret.chk (by omega) <| Ret.bindM (hso _ (by omega) (by omega)) fun b hb => ?_
    generalize hm : lo + (hi - lo) / 2 = m at hb
    have hm1 : lo ≤ m ∧ m < hi := by omega
    refine Ret.bindM (Q' := fun r => (1 ≤ r.1 ∧ r.1 ≤ r.2 ∧ r.2 ≤ 6001 ∧ p r.2 ∧ ∀ x, 1 ≤ x → x < r.1 → ¬ p x) ∧ (r.2 - r.1).toNat < (hi - lo).toNat) (Ret.cond (fun hc2 => Ret.ok ?_) (fun hc2 => Ret.bind <| Ret.chk (by omega) <| Ret.ok ?_)) fun r hr => Ret.next hr
    · exact ⟨⟨h1, by dsimp only; omega, by dsimp only; omega, hb.1 hc2, h5⟩, by dsimp only; omega⟩
    · refine ⟨⟨by dsimp only; omega, by dsimp only; omega, h3, h4, fun x hx1 hx2 hx3 => ?_⟩, by dsimp only; omega⟩
      dsimp only at hx2
      have := hb.2 (hp x m (by omega) hx3)
      rw [this] at hc2; cases hc2
  · have hc := of_decide_eq_false hc
    have : lo = hi := by omega
    subst this
    exact ⟨h1, h3, h4, h5⟩
omit v in
theorem gd_ring (hv : Vd h l) {good : List Int} : (rB (-1) good = true ∧ ∀ g ∈ good, g ∈ ids l) ↔ (good.Pairwise (· < ·) ∧ ∀ g ∈ good, g ∈ ids l) := by
  rw [rB_iff]
  refine ⟨fun ⟨h1, h2⟩ => ⟨h1.1, h2⟩, fun ⟨h1, h2⟩ => ⟨⟨h1, fun x hx => ?_⟩, h2⟩⟩
  obtain ⟨f, hf, e⟩ := List.mem_map.1 (h2 x hx)
  have := hv.idr f hf
  omega
theorem ring_Tune0 {good : List Int} (hg : good.length ≤ 1000) (most : Int) : Ret (P.ring_Tune h l good most) (Tune' h l good most) := by
  have hlen := v.len
  have hc : check h l = 0 := check_iff.2 v
  unfold P.ring_Tune
  refine Ret.bindM (r_open0 v) ?_
  rintro _ rfl
  refine Ret.condF rfl ?_
  refine Ret.bindM (Q' := fun b => b = false ↔ Gd l good most) (Ret.bindM (r_rising (by omega)) fun b hb => Ret.cond (fun h1 => Ret.ok ?_) (fun h1 => Ret.bind <| r_in1 <| Ret.cond (fun h2 => Ret.ok ?_) (fun h2 => ?_))) ?_
  · refine ⟨(fun e => by cases e), fun e => ?_⟩
    rw [hb, ((gd_ring v).2 ⟨e.1, e.2.1⟩).1] at h1; cases h1
  · refine ⟨(fun e => by cases e), fun e => ?_⟩
    rw [inB_iff.2 e.2.2] at h2; cases h2
  · refine Ret.bindM (r_ContainsFunc (fun x => !decide (x ∈ ids l)) (fun x hx => ?_) (by omega)) fun c hc2 => Ret.ok ?_
    · unfold P.ring_Tune_in1
      exact Ret.bind <| Ret.ok <| Ret.bindM (r_Contains (by rw [hk_ids]; omega)) fun c hc2 => Ret.ok (by rw [hc2]; rfl)
    · have h1 : rB (-1) good = true := by rw [← hb]; simpa using h1
      have h2 : inB 0 24 most = true := by simpa using h2
      rw [hc2]
      constructor
      · intro e
        have e2 : ∀ g ∈ good, g ∈ ids l := by simpa using e
        exact ⟨((gd_ring v).1 ⟨h1, e2⟩).1, e2, inB_iff.1 h2⟩
      · intro e
        have := e.2.1
        simpa using this
  · intro b hb
    refine Ret.cond (fun h1 => Ret.ok (.inr (.inl ⟨hc, (fun e => by rw [hb.2 e] at h1; cases h1), rfl⟩))) (fun h1 => ?_)
    have hgd := hb.1 h1
    have hcnt : ∀ s, 1 ≤ s → Ret (P.ring_Tune_in2 s (some (hk h l)) good) (· = (caught h l s, alarms h l good s)) := fun s hs => r_count v hs hg
    refine Ret.bindM (r_least (p := fun s => alarms h l good s ≤ most) (fun s hs _ => ?_) (fun s t hst e => by have := alarms_mono (h := h) (l := l) (good := good) hst; omega) (by rw [alarms_top v]; exact hgd.2.2.1)) ?_
    · unfold P.ring_Tune_in3
      refine Ret.bindM (hcnt s hs) ?_
      rintro _ rfl
      exact Ret.ok decide_eq_true_iff
    · rintro s ⟨h1, h2, h3, h4⟩
      refine Ret.bindM (hcnt s h1) ?_
      rintro _ rfl
      exact Ret.ok (.inr (.inr ⟨hc, hgd, s, ⟨h1, h2, h3, fun t ht1 ht2 => by have := h4 t ht1 ht2; omega⟩, rfl⟩))
end
theorem r_ringTune (h : Hunt) {l : List Filing} (hl : l.length ≤ 30) (hp : ∀ f ∈ l, f.parts.length ≤ 20) {good : List Int} (hg : good.length ≤ 1000) (most : Int) : Ret (P.ring_Tune h l good most) (Tune' h l good most) := by
  by_cases hc : check h l = 0
  · exact ring_Tune0 (check_iff.1 hc) hg most
  · unfold P.ring_Tune
    refine Ret.bindM (r_open h hl hp) ?_
    rintro _ rfl
    rw [if_neg hc]
    exact Ret.condT (by simpa using hc) <| Ret.ok (.inl ⟨hc, rfl⟩)
end Go.Proofs.Ytdbogmmdogjhpaa
set_option maxRecDepth 20000
set_option maxHeartbeats 1000000
set_option linter.unusedVariables false
set_option linter.unusedSimpArgs false
namespace Go.Proofs.Ytdbogmmdogjhpaa
open Go Go.Sx
open Go.Rx (ixA)
namespace S
def cd (h : Hunt) (l : List Filing) (a b : Nat) : Int := if a = b then 1 else w h l a b + 1
/-- What the reference knows when it has looked at some pairs. -/
def Kn (h : Hunt) (l : List Filing) (good : List Int) (most : Int) (p : Nat → Nat → Prop) (r : Int × Int × Int) : Prop :=
  (r = (6002, 0, 0) ∧ ∀ a b, p a b → most < alarms h l good (cd h l a b)) ∨
  (1 ≤ r.1 ∧ r.1 ≤ 6001 ∧ alarms h l good r.1 ≤ most ∧ r.2 = (caught h l r.1, alarms h l good r.1) ∧ ∀ a b, p a b → cd h l a b < r.1 → most < alarms h l good (cd h l a b))
theorem Kn.congr {h : Hunt} {l : List Filing} {good : List Int} {most : Int} {p q : Nat → Nat → Prop} {r : Int × Int × Int} (h1 : Kn h l good most p r) (e : ∀ a b, q a b → p a b) : Kn h l good most q r :=
  h1.imp (fun ⟨a, b⟩ => ⟨a, fun x y h => b x y (e x y h)⟩) fun ⟨a, b, c, d, f⟩ => ⟨a, b, c, d, fun x y h => f x y (e x y h)⟩
theorem pair_all {xs : List Int} (h : ∀ j (hj : j < xs.length), 0 < j → xs[j - 1] < xs[j]) : xs.Pairwise (· < ·) := by
  refine List.pairwise_iff_getElem.2 fun i j hi hj hij => ?_
  have key : ∀ d (hd : i + d + 1 < xs.length), xs[i] < xs[i + d + 1] := by
    intro d
    induction d with
    | zero => intro hd; exact h (i + 0 + 1) hd (by omega)
    | succ d ih =>
      intro hd
      have h1 := ih (by omega)
      have h2 := h (i + (d + 1) + 1) hd (by omega)
      have e : xs[i + (d + 1) + 1 - 1] = xs[i + d + 1]'(by omega) := by congr 1
      omega
  have := key (j - i - 1) (by omega)
  have e : xs[i + (j - i - 1) + 1]'(by omega) = xs[j] := by congr 1; omega
  omega
end S
open S
section
variable {h : Hunt} {l : List Filing} (v : Vd h l)
include v
theorem cd_in (a b : Nat) : 1 ≤ cd h l a b ∧ cd h l a b ≤ 6001 := by
  have := v.win_ a b
  unfold cd
  split <;> omega
theorem Kn.add {good : List Int} {most : Int} {p q : Nat → Nat → Prop} {r : Int × Int × Int} {a b : Nat} (h1 : Kn h l good most p r) (e : ∀ x y, q x y → p x y ∨ (x = a ∧ y = b)) :
    (r.1 ≤ cd h l a b → Kn h l good most q r) ∧ (cd h l a b < r.1 → alarms h l good (cd h l a b) ≤ most → Kn h l good most q (cd h l a b, caught h l (cd h l a b), alarms h l good (cd h l a b))) ∧ (most < alarms h l good (cd h l a b) → Kn h l good most q r) := by
  have hcd := cd_in v a b
  refine ⟨fun e1 => ?_, fun e1 e2 => .inr ⟨hcd.1, hcd.2, e2, rfl, fun x y hq hlt => ?_⟩, fun e1 => ?_⟩
  · rcases h1 with ⟨rfl, h1⟩ | ⟨h1, h2, h3, h4, h5⟩
    · dsimp only at e1; omega
    · refine .inr ⟨h1, h2, h3, h4, fun x y hq hlt => ?_⟩
      rcases e x y hq with hp | ⟨rfl, rfl⟩
      · exact h5 x y hp hlt
      · omega
  · dsimp only at hlt
    rcases e x y hq with hp | ⟨rfl, rfl⟩
    · rcases h1 with ⟨rfl, h1⟩ | ⟨h1, h2, h3, h4, h5⟩
      · exact h1 x y hp
      · exact h5 x y hp (by omega)
    · omega
  · rcases h1 with ⟨rfl, h1⟩ | ⟨h1, h2, h3, h4, h5⟩
    · refine .inl ⟨rfl, fun x y hq => ?_⟩
      rcases e x y hq with hp | ⟨rfl, rfl⟩
      · exact h1 x y hp
      · exact e1
    · refine .inr ⟨h1, h2, h3, h4, fun x y hq hlt => ?_⟩
      rcases e x y hq with hp | ⟨rfl, rfl⟩
      · exact h5 x y hp hlt
      · exact e1
theorem Kn.end {good : List Int} {most : Int} {r : Int × Int × Int} (h0 : 0 < l.length) (hm : 0 ≤ most) (h1 : Kn h l good most (fun a b => a < l.length ∧ b ≤ a) r) : Lst h l good most r.1 ∧ r.2 = (caught h l r.1, alarms h l good r.1) := by
  have hz : ∀ s, 1 ≤ s → s ≤ 6001 → alarms h l good s ≤ most → (∀ t, 1 ≤ t → t < s → most < alarms h l good t) → ∃ a b, (a < l.length ∧ b ≤ a) ∧ cd h l a b = s := fun s h1 h2 h3 h4 => by
    by_cases e : s = 1
    · exact ⟨0, 0, ⟨h0, Nat.le_refl _⟩, by rw [e]; rfl⟩
    · have h5 := h4 (s - 1) (by omega) (by omega)
      have hex : ∃ i k, RC h l (s - 1) i k ∧ ¬ RC h l s i k := Classical.byContradiction fun hne => by
        have e1 : ∀ i, gr h l (s - 1) i = gr h l s i := fun i => fr_congr fun k _ => ⟨fun x => Classical.byContradiction fun y => hne ⟨i, k, x, y⟩, fun x => x.mono (by omega)⟩
        have e2 : alarms h l good (s - 1) = alarms h l good s := by
          unfold alarms
          rw [fr_congr fun k _ => show cb h l good (s - 1) k ↔ cb h l good s k by unfold cb cg; rw [e1]]
        omega
      obtain ⟨i, k, h6, h7⟩ := hex
      obtain ⟨a, b, h8, h9, h10, h11⟩ := Rc.edge h6 (by rw [show s - 1 + 1 = s by omega]; exact h7)
      rcases Nat.lt_or_ge b a with h12 | h12
      · exact ⟨a, b, ⟨h9, by omega⟩, by unfold cd; rw [if_neg h8]; omega⟩
      · refine ⟨b, a, ⟨h10, by omega⟩, ?_⟩
        unfold cd
        rw [if_neg (fun e => h8 e.symm), v.wcomm]; omega
  obtain ⟨s, hs1, hs2⟩ := least_ex (p := fun n : Nat => alarms h l good ((n : Int) + 1) ≤ most) ⟨6000, by rw [show ((6000 : Nat) : Int) + 1 = 6001 from rfl, alarms_top v]; exact hm⟩
  have hmin : ∀ t, 1 ≤ t → t < (s : Int) + 1 → most < alarms h l good t := fun t ht1 ht2 => by
    have := hs2 (t - 1).toNat (by omega)
    rw [show (((t - 1).toNat : Nat) : Int) + 1 = t by omega] at this
    omega
  have hs6 : (s : Int) + 1 ≤ 6001 := by
    rcases Int.lt_or_le 6001 ((s : Int) + 1) with e | e
    · have := hmin 6001 (by omega) e
      rw [alarms_top v] at this; omega
    · exact e
  obtain ⟨a, b, hab, hcd⟩ := hz _ (by omega) hs6 hs1 hmin
  rcases h1 with ⟨rfl, h1⟩ | ⟨h1, h2, h3, h4, h5⟩
  · have := h1 a b hab
    rw [hcd] at this; omega
  · have : r.1 = (s : Int) + 1 := by
      rcases Int.lt_trichotomy r.1 ((s : Int) + 1) with e | e | e
      · have := hmin r.1 h1 e; omega
      · exact e
      · have := h5 a b hab (by omega)
        rw [hcd] at this; omega
    exact ⟨⟨h1, h2, h3, fun t ht1 ht2 => hmin t ht1 (by omega)⟩, h4⟩
theorem r_Good {good : List Int} (hg : good.length ≤ 1000) : Ret (P.ref08_Good l good) fun b => b = true ↔ good.Pairwise (· < ·) ∧ ∀ g ∈ good, g ∈ ids l := by
  have hlen := v.len
  unfold P.ref08_Good
  refine Ret.bindM (Q' := fun r => (r = Sum.inl () ∧ ∀ j (hj : j < good.length), good[j] ∈ ids l ∧ (0 < j → good[j - 1] < good[j])) ∨ (r = Sum.inr false ∧ ¬ (good.Pairwise (· < ·) ∧ ∀ g ∈ good, g ∈ ids l))) (Ret.upto good.length (fun n (i : Int) => i = n ∧ ∀ j (hj : j < good.length), j < n → good[j] ∈ ids l ∧ (0 < j → good[j - 1] < good[j])) ⟨rfl, fun j hj h0 => by omega⟩ ?_ ?_) ?_
  · rintro n hn i ⟨rfl, hI⟩
    refine Ret.condT (lt_cast hn) ?_
    refine Ret.bindM (Q' := fun b => b = false ↔ good[n] ∈ ids l ∧ (0 < n → good[n - 1] < good[n])) (Ret.bind <| ixR hn <| Ret.bindM (r_At (v := good[n]) (by omega)) fun r hr => Ret.cond (fun hc => Ret.ok ?_) (fun hc => Ret.cond (fun h0 => ?_) (fun h0 => Ret.ok ?_))) ?_
    · refine ⟨(fun e => by cases e), fun e => ?_⟩
      obtain ⟨k, h1, _⟩ := idx_at e.1
      have hc := of_decide_eq_true hc
      rw [hr, show idx (l.map (·.id)) good[n] = idx (ids l) good[n] from rfl, h1] at hc
      omega
    · have hmem : good[n] ∈ ids l := Classical.byContradiction fun hne => by
        have hc := of_decide_eq_false hc
        rw [hr, show idx (l.map (·.id)) good[n] = idx (ids l) good[n] from rfl, idx_none hne] at hc
        omega
      have h0 : 0 < n := by have := of_decide_eq_true h0; omega
      refine Ret.bind <| ixR hn <| Ret.bind <| Ret.chk (by omega) <| Ret.bind <| ixP hn h0 <| Ret.ok ?_
      rw [decide_eq_false_iff_not]
      exact ⟨fun e => ⟨hmem, fun _ => by omega⟩, fun e => by have := e.2 h0; omega⟩
    · have hmem : good[n] ∈ ids l := Classical.byContradiction fun hne => by
        have hc := of_decide_eq_false hc
        rw [hr, show idx (l.map (·.id)) good[n] = idx (ids l) good[n] from rfl, idx_none hne] at hc
        omega
      have h0 := of_decide_eq_false h0
      exact ⟨fun _ => ⟨hmem, fun e => by omega⟩, fun _ => rfl⟩
    · intro b hb
      refine Ret.cond (fun hc => Ret.done (.inr ⟨rfl, fun e => ?_⟩)) (fun hc => Ret.bind <| Ret.chk (by omega) <| Ret.next ⟨rfl, fun j hj hjn => ?_⟩)
      · rw [hb.2 ⟨e.2 _ (List.getElem_mem hn), fun h0 => List.pairwise_iff_getElem.1 e.1 (n - 1) n (by omega) hn (by omega)⟩] at hc
        cases hc
      · by_cases e : j = n
        · subst e; exact hb.1 hc
        · exact hI j hj (by omega)
  · rintro i ⟨rfl, hI⟩
    exact Ret.condF not_lt_cast <| Ret.done (.inl ⟨rfl, fun j hj => hI j hj hj⟩)
  · rintro r (⟨rfl, hr⟩ | ⟨rfl, hr⟩)
    · refine Ret.elimL <| Ret.ok ⟨fun _ => ⟨pair_all fun j hj h0 => (hr j hj).2 h0, fun g hg => ?_⟩, fun _ => rfl⟩
      obtain ⟨j, hj, rfl⟩ := List.mem_iff_getElem.1 hg
      exact (hr j hj).1
    · exact Ret.elimR <| Ret.ok ⟨(fun e => by cases e), fun e => absurd e hr⟩
theorem ref_Tune0 {good : List Int} (hg : good.length ≤ 1000) (most : Int) : Ret (P.ref08_Tune h l good most) (Tune' h l good most) := by
  have hlen := v.len
  have hc : check h l = 0 := check_iff.2 v
  unfold P.ref08_Tune
  refine Ret.bindM (r_refCheck (by omega) fun f hf => by have := v.prl f hf; omega) ?_
  rintro _ rfl
  rw [hc]
  refine Ret.condF rfl ?_
  refine Ret.bindM (Q' := fun b => b = false ↔ Gd l good most) (Ret.bindM (r_Good v hg) fun b hb => Ret.cond (fun h1 => Ret.ok ?_) (fun h1 => Ret.bind <| r_within1 <| Ret.ok ?_)) ?_
  · refine ⟨(fun e => by cases e), fun e => ?_⟩
    rw [hb.2 ⟨e.1, e.2.1⟩] at h1; cases h1
  · have h1 := hb.1 (by simpa using h1)
    rw [Bool.not_eq_false', inB_iff]
    exact ⟨fun e => ⟨h1.1, h1.2, e⟩, fun e => e.2.2⟩
  intro b hb
  refine Ret.cond (fun h1 => Ret.ok (.inr (.inl ⟨hc, (fun e => by rw [hb.2 e] at h1; cases h1), rfl⟩))) (fun h1 => ?_)
  have hgd := hb.1 h1
  refine Ret.bindM (Q' := Kn h l good most fun a b => a < l.length ∧ b ≤ a) (Ret.upto l.length (fun n (t : Int × Int × Int × Int) => t.2.2.2 = n ∧ Kn h l good most (fun a b => a < n ∧ b ≤ a) (t.1, t.2.1, t.2.2.1)) ⟨rfl, .inl ⟨rfl, fun a b e => by omega⟩⟩ ?_ ?_) fun r hr => Ret.cond (fun h2 => Ret.ok ?_) (fun h2 => Ret.ok ?_)
  · rintro a ha ⟨x1, x2, x3, _⟩ ⟨rfl, hx⟩
    dsimp only at hx ⊢
    refine Ret.condT (lt_cast ha) ?_
    refine Ret.bindM (Q' := Kn h l good most fun x b => x < a + 1 ∧ b ≤ x) (Ret.upto (a + 1) (fun n (t : Int × Int × Int × Int) => t.2.2.2 = n ∧ Kn h l good most (fun x b => (x < a ∧ b ≤ x) ∨ (x = a ∧ b < n)) (t.1, t.2.1, t.2.2.1)) ⟨rfl, hx.congr fun x b e => by omega⟩ ?_ ?_) ?_
    · rintro b hb' ⟨y1, y2, y3, _⟩ ⟨rfl, hy⟩
      dsimp only at hy ⊢
      have hbl : b < l.length := by omega
      have hcd := cd_in v a b
      refine Ret.condT (decide_eq_true (by omega)) ?_
      refine Ret.bindM (Q' := fun r => Kn h l good most (fun x c => (x < a ∧ c ≤ x) ∨ (x = a ∧ c < b + 1)) r) (Ret.bindM (Q' := fun r => r = cd h l a b) (Ret.cond (fun h2 => ?_) (fun h2 => Ret.ok ?_)) ?_) ?_
      · refine Ret.bindM (r_weight v ha hbl) ?_
        rintro _ rfl
        have hne : a ≠ b := fun e => by simp [e] at h2
        have := v.win_ a b
        refine Ret.bind <| Ret.chk (by omega) <| Ret.ok ?_
        unfold cd
        rw [if_neg hne]
      · have he : a = b := by simp at h2; omega
        unfold cd
        rw [if_pos he]
      · rintro _ rfl
        obtain ⟨k1, k2, k3⟩ := Kn.add v (a := a) (b := b) (q := fun x c => (x < a ∧ c ≤ x) ∨ (x = a ∧ c < b + 1)) hy (fun x c e => by omega)
        refine Ret.cond (fun h2 => Ret.ok (k1 (of_decide_eq_true h2))) (fun h2 => ?_)
        have h2 := of_decide_eq_false h2
        refine Ret.bindM (r_refRings0 v _) ?_
        rintro _ rfl
        have e1 := heads_len (h := h) (l := l) (cd h l a b)
        have e2 := flat_len v (cd h l a b)
        have hin : ∀ (xs : List Int), xs.length ≤ 24 → 0 ≤ (cn good xs).1 ∧ (cn good xs).1 ≤ 24 ∧ 0 ≤ (cn good xs).2 ∧ (cn good xs).2 ≤ 24 := fun xs hxs => by
          have := List.length_filter_le (fun x => decide (x ∈ good)) xs
          unfold cn
          dsimp only
          omega
        refine Ret.bindM (Q' := fun r => r = cn good (rgs h l (cd h l a b)).flatten) ?_ ?_
        · generalize rgs h l (cd h l a b) = R at e1 e2
          have hle := fun n => take_flat_len (xss := R) n
          refine Ret.upto R.length (fun n (t : Int × Int × Int) => t = ((cn good (R.take n).flatten).1, (cn good (R.take n).flatten).2, (n : Int))) rfl ?_ ?_
          · rintro n hn _ rfl
            have e3 : (R.take (n + 1)).flatten = (R.take n).flatten ++ R[n] := take_flat hn
            have e4 := hle (n + 1)
            have e5 : (R.take (n + 1)).flatten.length = (R.take n).flatten.length + R[n].length := by rw [e3, List.length_append]
            dsimp only
            refine Ret.condT (lt_cast hn) ?_
            refine Ret.bindM (Q' := fun r => r = cn good (R.take (n + 1)).flatten) (Ret.upto R[n].length (fun m (t : Int × Int × Int) => t = ((cn good ((R.take n).flatten ++ R[n].take m)).1, (cn good ((R.take n).flatten ++ R[n].take m)).2, (m : Int))) (by simp) ?_ ?_) ?_
            · rintro m hm _ rfl
              have hb2 := hin ((R.take n).flatten ++ R[n].take m) (by rw [List.length_append, List.length_take]; omega)
              dsimp only
              refine Ret.bind <| ixR hn <| Ret.condT (lt_cast hm) <| Ret.bind <| Ret.chk (by omega) <| Ret.bind <| ixR hn <| Ret.bind <| ixR hm <| Ret.bindM (r_has (by omega)) ?_
              rintro _ rfl
              refine Ret.bindM (Q' := fun r => r = (cn good ((R.take n).flatten ++ R[n].take m)).2 + if R[n][m] ∈ good then 1 else 0) (Ret.cond (fun hc => Ret.bind <| Ret.chk (by omega) <| Ret.ok ?_) (fun hc => Ret.ok ?_)) ?_
              · rw [if_pos (of_decide_eq_true hc)]
              · rw [if_neg (of_decide_eq_false hc)]; omega
              · rintro _ rfl
                refine Ret.bind <| Ret.chk (by omega) <| Ret.next ?_
                rw [take_succ hm, ← List.append_assoc, cn_snoc]
                rfl
            · rintro _ rfl
              dsimp only
              exact Ret.bind <| ixR hn <| Ret.condF not_lt_cast <| Ret.done (by rw [List.take_length, e3])
            · rintro _ rfl
              exact Ret.bind <| Ret.chk (by omega) <| Ret.next rfl
          · rintro _ rfl
            exact Ret.condF not_lt_cast <| Ret.done (by rw [List.take_length])
        · rintro _ rfl
          rw [cn_rgs v good]
          dsimp only
          refine Ret.bindM (Q' := fun r => Kn h l good most (fun x c => (x < a ∧ c ≤ x) ∨ (x = a ∧ c < b + 1)) r) (Ret.cond (fun h3 => Ret.ok ?_) (fun h3 => Ret.ok ?_)) fun r hr => Ret.ok hr
          · exact k2 (by dsimp only; omega) (of_decide_eq_true h3)
          · exact k3 (by have := of_decide_eq_false h3; omega)
      · rintro ⟨z1, z2, z3⟩ hz
        exact Ret.bind <| Ret.chk (by omega) <| Ret.next ⟨rfl, hz⟩
    · rintro ⟨y1, y2, y3, _⟩ ⟨rfl, hy⟩
      dsimp only at hy ⊢
      exact Ret.condF (decide_eq_false (by omega)) <| Ret.done (hy.congr fun x b e => by omega)
    · rintro ⟨z1, z2, z3⟩ hz
      exact Ret.bind <| Ret.chk (by omega) <| Ret.next ⟨rfl, hz⟩
  · rintro ⟨x1, x2, x3, _⟩ ⟨rfl, hx⟩
    exact Ret.condF not_lt_cast <| Ret.done hx
  · have h0 : l.length = 0 := by have := of_decide_eq_true h2; omega
    have e1 : ∀ p : Nat → Prop, fr p l.length = [] := fun p => List.eq_nil_of_length_eq_zero (by have := fr_len (p := p) (n := l.length); omega)
    refine .inr (.inr ⟨hc, hgd, 1, ⟨by decide, by decide, ?_, fun t h3 h4 => by omega⟩, ?_⟩)
    · unfold alarms; rw [e1]; exact hgd.2.2.1
    · unfold alarms caught; rw [e1, e1]; rfl
  · have h0 : 0 < l.length := by have := of_decide_eq_false h2; omega
    obtain ⟨r1, r2, r3⟩ := r
    obtain ⟨k1, k2⟩ := Kn.end v h0 hgd.2.2.1 hr
    dsimp only at k1 k2 ⊢
    cases k2
    exact .inr (.inr ⟨hc, hgd, r1, k1, rfl⟩)
end
theorem r_refTune (h : Hunt) {l : List Filing} (hl : l.length ≤ 30) (hp : ∀ f ∈ l, f.parts.length ≤ 20) {good : List Int} (hg : good.length ≤ 1000) (most : Int) : Ret (P.ref08_Tune h l good most) (Tune' h l good most) := by
  by_cases hc : check h l = 0
  · exact ref_Tune0 (check_iff.1 hc) hg most
  · unfold P.ref08_Tune
    refine Ret.bindM (r_refCheck hl hp) ?_
    rintro _ rfl
    exact Ret.condT (by simpa using hc) <| Ret.ok (.inl ⟨hc, rfl⟩)
theorem Apart'_len {h : Hunt} {l : List Filing} {id s : Int} {r : List Int × Int × Int} (h1 : Apart' h l id s r) (hl : l.length ≤ 30) : r.1.length ≤ 30 := by
  rcases h1 with ⟨a1, rfl⟩ | ⟨a1, a2, rfl⟩ | ⟨a1, a2, a3, rfl⟩ | ⟨a1, a2, i, n, a3, a4, a5, rfl⟩ <;> try exact Nat.zero_le _
  have := grp_len (check_iff.1 a1) (s := s) (i := i)
  dsimp only
  omega
theorem Rings_len (h : Hunt) {l : List Filing} (hl : l.length ≤ 30) (s : Int) : (Rings h l s).1.length ≤ 30 ∧ ∀ x ∈ (Rings h l s).1, x.length ≤ 30 := by
  unfold Rings
  split
  · rename_i hc
    split
    · have := heads_len (h := h) (l := l) s
      refine ⟨by dsimp only; omega, fun x hx => ?_⟩
      obtain ⟨i, _, rfl⟩ := List.mem_map.1 (show x ∈ (fr (Head h l s) l.length).map (grp h l s) from hx)
      have := grp_len (check_iff.1 hc) (s := s) (i := i)
      omega
    · exact ⟨Nat.zero_le _, fun x hx => by cases hx⟩
  · exact ⟨Nat.zero_le _, fun x hx => by cases hx⟩
theorem p_RingGroups (h : Hunt) (l : List Filing) (id strength : Int) (good : List Int) (most : Int) : P.law08_RingGroups h l id strength good most = some true := by
  apply Ret.yes
  unfold P.law08_RingGroups
  refine Ret.bindM (Q' := fun b => b = false → great l = false ∧ good.length ≤ 40) (Ret.bindM (r_Great l) fun b hb => Ret.cond (fun _ => Ret.ok fun e => by cases e) (fun h1 => Ret.ok fun e => ⟨by rw [← hb]; exact h1, ?_⟩)) fun b hb => ?_
  · have := of_decide_eq_false e; omega
  refine Ret.cond (fun _ => Ret.ok rfl) (fun hg => ?_)
  obtain ⟨hg, hg2⟩ := hb hg
  obtain ⟨hl, hp⟩ := great_out hg
  refine Ret.bindM (r_Twin hl hp) ?_
  rintro _ rfl
  refine Ret.bind <| Ret.appo (by simp; omega) (by simp; omega) ?_
  rw [List.nil_append]
  refine Ret.bindM (r_ringRings h hl hp strength) ?_
  intro rg hrg
  refine Ret.bindM (r_refRings h hl hp strength) ?_
  intro rg2 hrg2
  obtain rfl : rg2 = rg := hrg2.trans hrg.symm
  refine Ret.bindM (r_ringApart h hl hp id strength) ?_
  intro x hx
  refine Ret.bindM (r_refApart h hl hp id strength) ?_
  intro y hy
  obtain rfl := Apart'.uniq hx hy
  have hxl := Apart'_len hx hl
  refine Ret.bindM (r_ringTune h hl hp (by omega) most) ?_
  intro z hz
  refine Ret.bindM (r_refTune h hl hp (by omega) most) ?_
  intro z' hz'
  obtain rfl := hz.uniq hz'
  obtain ⟨hr1, hr2⟩ := Rings_len h hl strength
  rw [← hrg] at hr1 hr2
  refine Ret.bindM (Q' := fun b => b = true) ?_ fun b hb => Ret.ok hb
  refine Ret.bindM (r_SameLists (by omega) fun q hq => by have := hr2 q hq; omega) ?_
  rintro _ rfl
  refine Ret.condT (decide_eq_true rfl) <| Ret.condT (decide_eq_true rfl) <| Ret.bindM (r_SameInts (by omega)) ?_
  rintro _ rfl
  refine Ret.condT (decide_eq_true rfl) <| Ret.condT (decide_eq_true rfl) <| Ret.condT (decide_eq_true rfl) <| Ret.condT (decide_eq_true rfl) <| Ret.condT (decide_eq_true rfl) <| Ret.condT (decide_eq_true rfl) <| Ret.condT (decide_eq_true rfl) <| Ret.bindM (r_SameSelf hl hp) ?_
  rintro _ rfl
  refine Ret.condT rfl <| Ret.bindM (r_SameInts (by omega)) ?_
  rintro _ rfl
  exact Ret.ok (decide_eq_true rfl)
end Go.Proofs.Ytdbogmmdogjhpaa
