/-
  Part AccountStates 10 of the texts that the statement's proof stands on: what memory holds, how code is walked, what the functions reckon. In the order in which they build.
-/

import Derived.Test.YtepjkmoipjeghaaDoorAdAccountStates9
set_option linter.unusedVariables false
set_option linter.unusedSectionVars false
namespace Go.Proofs.YtepjkmoipjeghaaDoor
open Go Go.Sx
namespace S
theorem r_sameI {a : List Int} (hl : a.length ≤ 1000000) : P.ref03_SameInts a a = some true := by
  apply Ret.yes
  unfold P.ref03_SameInts
  refine Ret.condF (by simp) (Ret.bind (Ret.loop (fun t : Int => ∃ n : Nat, t = n ∧ n ≤ a.length) (fun t => a.length - t.toNat) ⟨0, rfl, Nat.zero_le _⟩ ?_))
  rintro _ ⟨n, rfl, hn⟩
  refine Ret.cond (fun h1 => ?_) fun h1 => ?_
  · have hlt : n < a.length := by have := of_decide_eq_true h1; omega
    have g := List.getElem?_eq_getElem hlt
    exact Ret.bind (Ret.ixo g (Ret.bind (Ret.ixo g (Ret.condF (by simp) (Ret.bind (Ret.chk (by omega) (Ret.next ⟨⟨n + 1, by omega, by omega⟩, by omega⟩)))))))
  · exact Ret.done (Ret.elimL (Ret.ok rfl))
theorem r_sameT {a : Told} (hl : a.by_.length ≤ 1000000) : P.ref03_SameTold a a = some true := by
  unfold P.ref03_SameTold
  rw [r_sameI hl]
  simp
/-- A state's lists of Ids are no longer than reports may be. -/
def Few (s : State) : Prop := s.opened.by_.length ≤ 1000000 ∧ s.limit.by_.length ≤ 1000000 ∧ s.owed.by_.length ≤ 1000000 ∧ s.late.by_.length ≤ 1000000 ∧ s.default.by_.length ≤ 1000000 ∧ s.closed.by_.length ≤ 1000000
theorem r_sameS {a : State} (h : Few a) : P.ref03_SameState a a = some true := by
  obtain ⟨h1, h2, h3, h4, h5, h6⟩ := h
  unfold P.ref03_SameState
  simp only [etaT]
  rw [r_sameT h1, r_sameT h2, r_sameT h3, r_sameT h4, r_sameT h5, r_sameT h6]
  simp
theorem r_sameC {a : List Clash} (hl : a.length ≤ 1000000) (hb : ∀ x ∈ a, x.by_.length ≤ 1000000) : P.ref03_SameClashes a a = some true := by
  apply Ret.yes
  unfold P.ref03_SameClashes
  refine Ret.condF (by simp) (Ret.bind (Ret.loop (fun t : Int => ∃ n : Nat, t = n ∧ n ≤ a.length) (fun t => a.length - t.toNat) ⟨0, rfl, Nat.zero_le _⟩ ?_))
  rintro _ ⟨n, rfl, hn⟩
  refine Ret.cond (fun h1 => ?_) fun h1 => ?_
  · have hlt : n < a.length := by have := of_decide_eq_true h1; omega
    have g := List.getElem?_eq_getElem hlt
    refine Ret.bind (Ret.bind (Ret.ixo g (Ret.bind (Ret.ixo g ?_))))
    refine Ret.condF (by simp) (Ret.bind (Ret.ixo g (Ret.bind (Ret.ixo g ?_))))
    refine Ret.condF (by simp) (Ret.bind (Ret.ixo g (Ret.bind (Ret.ixo g ?_))))
    exact Ret.bind (Ret.val (r_sameI (hb _ (List.getElem_mem hlt))) (Ret.ok (Ret.condF rfl (Ret.bind (Ret.chk (by omega) (Ret.next ⟨⟨n + 1, by omega, by omega⟩, by omega⟩))))))
  · exact Ret.done (Ret.elimL (Ret.ok rfl))
theorem told_by {o : Bool} {L : List Report} : (told o L).by_.length ≤ L.length := by
  cases L with
  | nil => simp [told]
  | cons f r => rw [told_cons]; split <;> simp [sid_len]
theorem lastT_by {L : List Report} : (lastT L).by_.length ≤ L.length := by
  unfold lastT
  split
  · exact Nat.le_trans told_by (by simp)
  · exact Nat.le_trans told_by (List.length_filter_le _ _)
theorem few_st {F : List Report} (hF : FO F) : Few (stF F) := by
  have hl := hF.len
  have hk : ∀ k, (fk F k).length ≤ 60 := fun k => (hF.filter _).len
  refine ⟨?_, ?_, ?_, ?_, ?_, ?_⟩
  · have := told_by (o := true) (L := fk F 1); have := hk 1; show (told true (fk F 1)).by_.length ≤ _; omega
  · have := lastT_by (L := fk F 2); have := hk 2; show (lastT (fk F 2)).by_.length ≤ _; omega
  · have := lastT_by (L := fk F 3); have := hk 3; show (lastT (fk F 3)).by_.length ≤ _; omega
  · have := lastT_by (L := fk F 5); have := hk 5; show (lastT (fk F 5)).by_.length ≤ _; omega
  · have := told_by (o := true) (L := fk F 6); have := hk 6; show (told true (fk F 6)).by_.length ≤ _; omega
  · have := told_by (o := true) (L := fk F 7); have := hk 7; show (told true (fk F 7)).by_.length ≤ _; omega
theorem few0 : Few st0 := ⟨by decide, by decide, by decide, by decide, by decide, by decide⟩
theorem StS.few {l : List Report} {a day known : Int} {z : State × Int} (h : StS l a day known z) : Few z.1 := by
  rcases h with ⟨_, rfl⟩ | ⟨_, _, rfl⟩ | ⟨h1, _, K, out, _, hk, hp, hs, rfl⟩
  · exact few0
  · exact few0
  · exact few_st ((T_FO (ok_of h1 hk) hp hs).filter _)
theorem mem_ite1 {α : Type} {p : Prop} [Decidable p] {x y : α} (h : x ∈ if p then [y] else []) : x = y := by
  split at h
  · simpa using h
  · cases h
theorem clash_by {F : List Report} {k : Int} {o : Bool} {g : List Report} (hg : g.length ≤ 60) : ∀ x ∈ clash F k o g, x.by_.length ≤ 60 := fun x hx => by
  cases g with
  | nil => cases hx
  | cons f r =>
    rw [clash_cons] at hx
    rw [mem_ite1 hx]; show (sid (f :: r)).length ≤ 60
    rw [sid_len]; exact hg
theorem few_cl {F : List Report} (hF : FO F) : (clF F).length ≤ 420 ∧ ∀ x ∈ clF F, x.by_.length ≤ 60 := by
  refine ⟨?_, fun x hx => ?_⟩
  · have := flat_len (fun k => clK_len hF k) (ks 7)
    have hkl : (ks 7).length = 7 := by simp [ks]
    rw [hkl] at this; exact this
  · unfold clF at hx
    obtain ⟨k, _, hx⟩ := List.mem_flatMap.1 hx
    have hk : FO (fk F k) := hF.filter _
    unfold clK at hx
    split at hx
    · exact clash_by hk.len x hx
    · obtain ⟨d, _, hx⟩ := List.mem_flatMap.1 hx
      exact clash_by (hk.filter _).len x hx
theorem StC.few {l : List Report} {a known : Int} {z : List Clash × Int} (h : StC l a known z) : z.1.length ≤ 1000000 ∧ ∀ x ∈ z.1, x.by_.length ≤ 1000000 := by
  rcases h with ⟨_, rfl⟩ | ⟨_, _, rfl⟩ | ⟨h1, _, K, out, _, hk, hp, hs, rfl⟩
  · exact ⟨by simp, fun x hx => by cases hx⟩
  · exact ⟨by simp, fun x hx => by cases hx⟩
  · obtain ⟨h2, h3⟩ := few_cl ((T_FO (ok_of h1 hk) hp hs).filter (ofA a 100000))
    exact ⟨Nat.le_trans h2 (by omega), fun x hx => Nat.le_trans (h3 x hx) (by omega)⟩
theorem p_AccountStates {l : List Report} (hin : ∀ r ∈ l, InR r) {id day known : Int} : P.law03_AccountStates l id day known = some true := by
  apply Ret.yes
  unfold P.law03_AccountStates
  refine Ret.cond (fun _ => Ret.ok rfl) fun h0 => ?_
  have hl : l.length ≤ 80 := by have := of_decide_eq_false h0; omega
  refine Ret.bind (Ret.appo (by simp; omega) (by simp; omega) ?_)
  rw [List.nil_append]
  refine Ret.bind (r_aState hin fun z hz => Ret.bind (r_rState hin fun z' hz' => ?_))
  obtain rfl := hz.uniq hz'
  refine Ret.bind (r_aClashes hin fun y hy => Ret.bind (r_rClashes hin fun y' hy' => ?_))
  obtain rfl := hy.uniq hy'
  have f1 := hz.few
  obtain ⟨f2, f3⟩ := hy.few
  obtain ⟨s, e⟩ := z
  obtain ⟨c, g⟩ := y
  dsimp only at f1 f2 f3 ⊢
  refine Ret.bind (Ret.bind (Ret.val (r_sameS f1) (Ret.condT rfl (Ret.condT (decide_eq_true rfl) (Ret.bind (Ret.val (r_sameC f2 f3) (Ret.condT rfl (Ret.ok ?_))))))))
  refine Ret.bind (r_aState hin fun z'' hz'' => ?_)
  obtain rfl := hz.uniq hz''
  exact Ret.bind (Ret.condT (decide_eq_true rfl) (Ret.bind (Ret.val (r_sameS f1) (Ret.condT rfl (Ret.condT (decide_eq_true rfl) (Ret.bind (r_same (by omega) (Ret.ok (Ret.ok rfl)))))))))
end S
end Go.Proofs.YtepjkmoipjeghaaDoor
