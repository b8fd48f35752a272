/-
  Part 6 of the texts that the statement's proof stands on: what memory holds, how code is walked, what the functions reckon. In the order in which they build.
-/
import Derived.OrdersIn
import Derived.Scope
import Derived.Test.YtdbogmmdogjhpaaRd5
set_option linter.unusedVariables false
set_option linter.unusedSectionVars false
namespace Go.Rx
open Go Go.Sx Go.RowKit
variable [Trk] [Sg] [Sf] {P : Program} [Se P]
variable [Anch]
/-- What an operation did, told by what it saw. -/
def Took (P : Program) [Se P] (N : Nat) (ops : List Oper) (o : Oper) (q : Dr) (σ : AS) : Prop :=
  q.d = o.dst ∧ (∀ d, o.dst = some d → Nat.blt d N = true) ∧
    (((o.guard = none ∨ ∃ g b t, o.guard = some (g, b) ∧ dstOf ops g = some t ∧ t ∈ q.lk ∧ fnd σ.env t = some (.bool b)) ∧ Does P N o.dst o.op (resE q.lk (fnd σ.env)) (resR q.ft (fnd σ.res)) q.as_) ∨
    (q.as_ = [.put .undef] ∧ ∃ g b t, o.guard = some (g, b) ∧ dstOf ops g = some t ∧ t ∈ q.lk ∧ ((∃ c, c ≠ b ∧ fnd σ.env t = some (.bool c)) ∨ fnd σ.env t = some .undef)))
theorem Took.eqv {N : Nat} {ops : List Oper} {o : Oper} {q : Dr} {σ σ' : AS} (h : Eqv σ σ') (k : Took P N ops o q σ) : Took P N ops o q σ' := by
  have e1 : fnd σ.env = fnd σ'.env := funext h.1
  have e2 : fnd σ.res = fnd σ'.res := funext h.2
  unfold Took at k ⊢
  rw [← e1, ← e2]; exact k
theorem runE_pre {T0 T1 : List Dr} : ∀ (e : List Nat) (σ : AS), (∀ k ∈ e, k < T0.length) → runE (T0 ++ T1) e σ = runE T0 e σ
  | [], _, _ => rfl
  | k :: e, σ, h => by
    simp only [runE]
    rw [List.getElem?_append_left (h k (List.mem_cons_self ..))]
    exact runE_pre e _ fun j hj => h j (List.mem_cons_of_mem _ hj)
section
variable {G : Gx} {N : Nat} {ops : List Oper} {Y : Type} {K : List Dr → AS → Option Y} {z : Y} {σ0 : AS} {W : List Nat}
theorem runD_out [Sl (P := P)] (hG : GxOk P G) : ∀ (l pre : List Oper) (T0 : List Dr) (σc : AS), ops = pre ++ l → T0.length = pre.length → Eqv σc (runE T0 (List.range pre.length) σ0) → (∀ t ∈ wrOps l, t ∈ W) → runD G N ops K l T0 σc = some z →
    ∃ T1 σe, K (T0 ++ T1) σe = some z ∧ T1.length = l.length ∧ Eqv σe (runE (T0 ++ T1) (List.range ops.length) σ0) ∧ Rel P W σc σe ∧ ∀ k o, pre.length ≤ k → ops[k]? = some o → ∃ q, (T0 ++ T1)[k]? = some q ∧ Took P N ops o q (runE (T0 ++ T1) (List.range k) σ0)
  | [], pre, T0, σc, ho, hl, he, _, h => by
    have ho : ops = pre := by rw [ho]; simp
    subst ho
    refine ⟨[], σc, by rw [List.append_nil]; exact h, rfl, by rw [List.append_nil]; exact he, Rel.refl _, fun k o hk hop => ?_⟩
    rw [List.getElem?_eq_none hk] at hop; cases hop
  | o :: r, pre, T0, σc, ho, hl, he, hW, h => by
    simp only [runD] at h
    have hW2 : ∀ t ∈ wrOps r, t ∈ W := fun t ht => hW t (by
      simp only [wrOps]
      cases o.dst with
      | none => exact ht
      | some d => exact List.mem_cons_of_mem _ ht)
    have hWd : ∀ t, o.dst = some t → t ∈ W := fun t ht => hW t (by simp only [wrOps, ht]; exact List.mem_cons_self ..)
    have next : ∀ (q : Dr) (σ1 : AS), Eqv σ1 σc → Rel P W σc σ1 → q.d = o.dst → Took P N ops o q σ1 → runD G N ops K r (T0 ++ [q]) (apps o.dst q.as_ σ1) = some z →
        ∃ T1 σe, K (T0 ++ T1) σe = some z ∧ T1.length = (o :: r).length ∧ Eqv σe (runE (T0 ++ T1) (List.range ops.length) σ0) ∧ Rel P W σc σe ∧ ∀ k o, pre.length ≤ k → ops[k]? = some o → ∃ q, (T0 ++ T1)[k]? = some q ∧ Took P N ops o q (runE (T0 ++ T1) (List.range k) σ0) := fun q σ1 h1 h2 h3 h4 h5 => by
      have hn : Eqv (apps o.dst q.as_ σ1) (runE (T0 ++ [q]) (List.range (pre ++ [o]).length) σ0) := by
        rw [show (pre ++ [o]).length = pre.length + 1 by simp, List.range_succ, runE_app, runE_pre (List.range pre.length) _ (fun k hk => by rw [hl]; exact List.mem_range.1 hk)]
        have hq : (T0 ++ [q])[pre.length]? = some q := by rw [← hl]; simp
        simp only [runE, hq, Dr.run, h3]
        exact (h1.trans he).apps o.dst q.as_
      obtain ⟨T1, σe, g1, g2, g3, g4, g5⟩ := runD_out hG r (pre ++ [o]) (T0 ++ [q]) _ (by rw [ho]; simp) (by simp [hl]) hn hW2 h5
      rw [List.append_assoc, List.singleton_append] at g1 g3 g5
      refine ⟨q :: T1, σe, g1, by simp [g2], g3, h2.trans ((Rel.acts o.dst hWd q.as_ σ1).trans g4), fun k o' hk hop => ?_⟩
      rcases Nat.lt_or_ge pre.length k with hlt | hge
      · exact g5 k o' (by simp; omega) hop
      · have : k = pre.length := by omega
        subst this
        have ho' : o' = o := by
          rw [ho] at hop; simpa using hop.symm
        subst ho'
        refine ⟨q, by rw [← hl]; simp, ?_⟩
        rw [runE_pre (List.range pre.length) _ (fun k hk => by rw [hl]; exact List.mem_range.1 hk)]
        exact h4.eqv (h1.trans he)
    cases hb : dstB N o.op o.dst with
    | false => rw [hb] at h; exact (noS h).elim
    | true =>
      rw [hb] at h
      simp only at h
      have hlt := dstB_lt hb
      cases hg : o.guard with
      | none =>
        rw [hg] at h
        obtain ⟨as_, h1, h2⟩ := core_ok (P := P) hG hb h
        exact next ⟨o.dst, lkL o.op.operands.toList, as_, _⟩ σc (Eqv.refl _) (Rel.refl _) rfl ⟨rfl, hlt, .inl ⟨.inl hg, h2⟩⟩ h1
      | some gb =>
        obtain ⟨g, b⟩ := gb
        rw [hg] at h
        simp only at h
        cases hdo : dstOf ops g with
        | none => rw [hdo] at h; exact (noS h).elim
        | some t =>
          rw [hdo] at h
          simp only at h
          cases hf : fnd σc.env t with
          | none => rw [hf] at h; exact (noS h).elim
          | some s =>
            rw [hf] at h
            cases s with
            | bool c =>
              simp only at h
              have same : ∀ u, fnd ((t, .bool c) :: σc.env) u = fnd σc.env u := fnd_same hf
              have hE : Eqv { σc with env := (t, .bool c) :: σc.env } σc := ⟨same, fun _ => rfl⟩
              have hR1 : Rel P W σc { σc with env := (t, .bool c) :: σc.env } := Rel.same same
              have ht : fnd ((t, .bool c) :: σc.env) t = some (.bool c) := by rw [same]; exact hf
              by_cases hcb : c = b
              · have hc : coreD G (idOf o.dst) (t :: lkL o.op.operands.toList) { σc with env := (t, .bool c) :: σc.env } (fun as_ => runD G N ops K r (T0 ++ [⟨o.dst, t :: lkL o.op.operands.toList, as_, ftO o.op (fnd ((t, .bool c) :: σc.env)) (fnd σc.res) (t :: lkL o.op.operands.toList)⟩]) (apps o.dst as_ { σc with env := (t, .bool c) :: σc.env })) o.op = some z := by
                  subst hcb
                  cases c <;> exact h
                obtain ⟨as_, h1, h2⟩ := core_ok (P := P) hG hb hc
                exact next ⟨o.dst, t :: lkL o.op.operands.toList, as_, _⟩ _ hE hR1 rfl ⟨rfl, hlt, .inl ⟨.inr ⟨g, b, t, hg, hdo, List.mem_cons_self .., by rw [← hcb]; exact ht⟩, h2⟩⟩ h1
              · have hc : runD G N ops K r (T0 ++ [⟨o.dst, [t], [.put .undef], []⟩]) (apps o.dst [.put .undef] { σc with env := (t, .bool c) :: σc.env }) = some z := by
                  cases c <;> cases b <;> first | exact absurd rfl hcb | exact h
                exact next ⟨o.dst, [t], [.put .undef], []⟩ _ hE hR1 rfl ⟨rfl, hlt, .inr ⟨rfl, g, b, t, hg, hdo, List.mem_cons_self .., .inl ⟨c, hcb, ht⟩⟩⟩ hc
            | undef => exact next ⟨o.dst, [t], [.put .undef], []⟩ σc (Eqv.refl _) (Rel.refl _) rfl ⟨rfl, hlt, .inr ⟨rfl, g, b, t, hg, hdo, List.mem_cons_self .., .inr hf⟩⟩ h
            | int _ _ | ary _ _ _ | str _ _ | agg _ | fv _ _ _ | fn _ _ | dead | tup _ | rp _ _ | ptr _ _ | ep _ _ _ _ _ | dat _ _ | own _ | nilS | raw _ | it _ _ | np _ _ | ap _ _ _ _ => exact (noS h).elim
end
/-! What the check says. -/
theorem subB_out {l F : List Nat} (h : subB l F = true) : ∀ i ∈ l, i ∈ F := fun i hi => has_iff.1 (List.all_eq_true.1 h i hi)
theorem disB_out {l F : List Nat} (h : disB l F = true) : ∀ i ∈ l, i ∉ F := fun i hi hm => by
  have := List.all_eq_true.1 h i hi
  rw [has_iff.2 hm] at this; cases this
theorem idA_tr {a : Ac} {i : Nat} {p : Option Rp} (h : trA a = some (i, p)) : idA a = some i := by cases a <;> cases h <;> rfl
theorem wsA_mem {a : Ac} {i : Nat} (h : idA a = some i) : ∀ {as_ : List Ac}, a ∈ as_ → i ∈ wsA as_
  | b :: l, hm => by
    simp only [wsA]
    rcases List.mem_cons.1 hm with rfl | hm
    · rw [h]; exact List.mem_cons_self ..
    · have := wsA_mem h hm
      cases idA b with
      | none => exact this
      | some j => exact List.mem_cons_of_mem _ this
theorem mkE_get {g : Gh} : ∀ {T : List Dr} {tb : List (List Nat)} {l : List Oper} {k : Nat} {d : De}, (mkE g T tb l)[k]? = some d → T[k]? = some d.r ∧ ∃ o, l[k]? = some o ∧ d.es = edL o.after.toList
  | r :: T, t :: tb, o :: l, 0, d, h => by
    have h : De.mk r ((unionL g.o r.lk ++ (r.ft ++ unionL g.r r.ft))) t (edL o.after.toList) = d := Option.some.inj h
    subst h; exact ⟨rfl, o, rfl, rfl⟩
  | r :: T, t :: tb, o :: l, k + 1, d, h => by
    obtain ⟨h1, o', h2, h3⟩ := mkE_get (T := T) (tb := tb) (l := l) (k := k) h
    exact ⟨h1, o', h2, h3⟩
  | [], _, _, _, _, h => by cases h
  | _ :: _, [], _, _, _, h => by cases h
  | _ :: _, _ :: _, [], _, _, h => by cases h
theorem allI_out {f : Nat → De → Bool} : ∀ {l : List De} {k0 k : Nat} {d : De}, allI f k0 l = true → l[k]? = some d → f (k0 + k) d = true
  | q :: l, k0, 0, d, h, hd => by
    simp only [allI, Bool.and_eq_true] at h
    cases hd; exact h.1
  | q :: l, k0, k + 1, d, h, hd => by
    simp only [allI, Bool.and_eq_true] at h
    have := allI_out (k := k) h.2 (by simpa using hd)
    rwa [show k0 + 1 + k = k0 + (k + 1) by omega] at this
theorem pairB_out {d : De} : ∀ {l : List De} {j0 j : Nat} {q : De}, pairB d j0 l = true → l[j]? = some q → j0 + j ∈ d.tb ∨ indB q d = true
  | p :: l, j0, 0, q, h, hq => by
    simp only [pairB, Bool.and_eq_true, Bool.or_eq_true] at h
    cases hq; exact h.1.imp has_iff.1 id
  | p :: l, j0, j + 1, q, h, hq => by
    simp only [pairB, Bool.and_eq_true] at h
    have := pairB_out (j := j) h.2 (by simpa using hq)
    rwa [show j0 + 1 + j = j0 + (j + 1) by omega] at this
theorem pairsB_out : ∀ {l pre : List De} {j k : Nat} {a b : De}, pairsB pre l = true → (pre ++ l)[j]? = some a → (pre ++ l)[k]? = some b → j < k → pre.length ≤ k → j ∈ b.tb ∨ indB a b = true
  | [], pre, j, k, a, b, _, _, hb, _, hk => by
    rw [List.append_nil, List.getElem?_eq_none hk] at hb; cases hb
  | d :: l, pre, j, k, a, b, h, ha, hb, hjk, hk => by
    simp only [pairsB, Bool.and_eq_true] at h
    rcases Nat.lt_or_ge pre.length k with hlt | hge
    · exact pairsB_out (l := l) (pre := pre ++ [d]) h.2 (by simpa using ha) (by simpa using hb) hjk (by simp; omega)
    · have : k = pre.length := by omega
      subst this
      have hb : d = b := by simpa using hb
      subst hb
      rw [List.getElem?_append_left hjk] at ha
      have := pairB_out h.1 ha
      rwa [Nat.zero_add] at this
theorem indB_out {a b : De} (h : indB a b = true) (ha : ∀ x ∈ a.r.as_, ∀ c ∈ coA x, c ∈ a.F ∨ c ∈ wsA a.r.as_) (hb : ∀ x ∈ b.r.as_, ∀ c ∈ coA x, c ∈ b.F ∨ c ∈ wsA b.r.as_) :
    IndR a.r b.r ∧ (∀ x ∈ a.r.as_, Unseen b.r.lk b.F a.r.d x) ∧ ∀ y ∈ b.r.as_, Unseen a.r.lk a.F b.r.d y := by
  simp only [indB, Bool.and_eq_true] at h
  obtain ⟨⟨⟨⟨h1, h2⟩, h3⟩, h4⟩, h5⟩ := h
  have d1 : ∀ x s t, putD s a.r.d = some (t, x) → t ∉ b.r.lk ∧ b.r.d ≠ some t := fun x s t hp => by
    have hd : a.r.d = some t := by
      cases s with
      | put s =>
        cases hd : a.r.d with
        | none => rw [hd] at hp; cases hp
        | some d => rw [hd] at hp; cases hp; rfl
      | _ => cases hp
    rw [hd] at h1
    simp only [Bool.and_eq_true, Bool.not_eq_true'] at h1
    refine ⟨fun hm => ?_, fun he => ?_⟩
    · rw [has_iff.2 hm] at h1; cases h1.1
    · rw [he] at h1; simp at h1
  have d2 : ∀ x s t, putD s b.r.d = some (t, x) → t ∉ a.r.lk := fun x s t hp hm => by
    have hd : b.r.d = some t := by
      cases s with
      | put s =>
        cases hd : b.r.d with
        | none => rw [hd] at hp; cases hp
        | some d => rw [hd] at hp; cases hp; rfl
      | _ => cases hp
    rw [hd] at h2
    simp only [Bool.not_eq_true'] at h2
    rw [has_iff.2 hm] at h2; cases h2
  have w3 := disB_out h3
  have w4 := disB_out h4
  have w5 := disB_out h5
  refine ⟨fun x hx y hy => ⟨fun i p j q hi hj e => ?_, fun j q hj hm => ?_, fun i p hi hm => ?_, fun t s t' s' hp hq e => ?_⟩, fun x hx => ⟨fun i p hi => w3 i (wsA_mem (idA_tr hi) hx), fun t s hp => (d1 s x t hp).1⟩, fun y hy => ⟨fun j q hj => w4 j (wsA_mem (idA_tr hj) hy), fun t s hp => d2 s y t hp⟩⟩
  · exact w5 i (wsA_mem (idA_tr hi) hx) (e ▸ wsA_mem (idA_tr hj) hy)
  · have hj' := wsA_mem (idA_tr hj) hy
    rcases ha x hx j hm with h | h
    · exact w4 j hj' h
    · exact w5 j h hj'
  · have hi' := wsA_mem (idA_tr hi) hx
    rcases hb y hy i hm with h | h
    · exact w3 i hi' h
    · exact w5 i hi' h
  · have h6 := (d1 s x t hp).2
    have hd : b.r.d = some t' := by
      cases y with
      | put s =>
        cases hd : b.r.d with
        | none => rw [hd] at hq; cases hq
        | some d => rw [hd] at hq; cases hq; rfl
      | _ => cases hq
    exact h6 (e ▸ hd)
theorem actB_out {g : Gh} {d : Option Nat} {a : Ac} (h : actB g d a = true) : GAct g d a := by
  cases a with
  | put s =>
    intro t ht i hi
    subst ht
    exact subB_out h i hi
  | new i r => exact subB_out h
  | sto i o ns => exact subB_out h
  | cnt i t xs => trivial
  | hnd i r => exact subB_out h
  | del i p =>
    have h : (match ownsP p with
      | [] => true
      | _ => false) = true := h
    show ownsP p = []
    cases hp : ownsP p with
    | nil => rfl
    | cons _ _ => rw [hp] at h; cases h
theorem unionL_mem {f : Nat → List Nat} {c : Nat} : ∀ {l : List Nat}, c ∈ unionL f l ↔ ∃ t ∈ l, c ∈ f t
  | [] => by simp [unionL]
  | x :: l => by simp [unionL, unionL_mem (l := l)]
/-- All that the check says, of what waits for what (O) and of what each touches (F). -/
structure Fine (ops : List Oper) (σ : AS) (T : List Dr) (g : Gh) (O : Nat → Nat → Prop) (F : Nat → List Nat) : Prop where
  g0 : GInv g σ
  act : ∀ r ∈ T, ∀ a ∈ r.as_, GAct g r.d a
  low : ∀ j k, O j k → j < k
  edge : ∀ (k : Nat) (o : Oper), ops[k]? = some o → ∀ e ∈ edL o.after.toList, e < k
  clos : ∀ D : List Nat, (∀ d ∈ D, ∀ o : Oper, ops[d]? = some o → ∀ e ∈ edL o.after.toList, e ∈ D) → ∀ k : Nat, (∀ o : Oper, ops[k]? = some o → ∀ e ∈ edL o.after.toList, e ∈ D) → ∀ j, O j k → j ∈ D
  ind : ∀ j k, j ≠ k → IndT T j k ∨ O j k ∨ O k j
  lk : ∀ (k : Nat) (q : Dr), T[k]? = some q → ∀ t ∈ q.lk, ∀ i ∈ g.o t, i ∈ F k
  sub : ∀ (k : Nat) (q : Dr), T[k]? = some q → ∀ j ∈ q.ft, j ∈ F k
  cl : ∀ (k : Nat) (q : Dr), T[k]? = some q → ∀ j ∈ q.ft, ∀ i ∈ g.r j, i ∈ F k
  un : ∀ (k : Nat) (q : Dr), T[k]? = some q → ∀ j, j ≠ k → O j k ∨ O k j ∨ ∀ r, T[j]? = some r → ∀ a ∈ r.as_, Unseen q.lk (F k) r.d a
theorem allI_of {f : Nat → De → Bool} : ∀ {l : List De} {k0 : Nat}, (∀ (k : Nat) (d : De), l[k]? = some d → f (k0 + k) d = true) → allI f k0 l = true
  | [], _, _ => rfl
  | d :: l, k0, h => by
    simp only [allI, Bool.and_eq_true]
    exact ⟨h 0 d rfl, allI_of fun k d hd => by
      have := h (k + 1) d hd
      rwa [show k0 + (k + 1) = k0 + 1 + k by omega] at this⟩
theorem pairB_of {d : De} : ∀ {l : List De} {j0 : Nat}, (∀ (j : Nat) (q : De), l[j]? = some q → j0 + j ∈ d.tb ∨ indB q d = true) → pairB d j0 l = true
  | [], _, _ => rfl
  | q :: l, j0, h => by
    simp only [pairB, Bool.and_eq_true, Bool.or_eq_true]
    exact ⟨(h 0 q rfl).imp has_iff.2 id, pairB_of fun j q hq => by
      have := h (j + 1) q hq
      rwa [show j0 + (j + 1) = j0 + 1 + j by omega] at this⟩
theorem pairsB_of : ∀ {l pre : List De}, (∀ (j k : Nat) (a b : De), (pre ++ l)[j]? = some a → (pre ++ l)[k]? = some b → j < k → pre.length ≤ k → j ∈ b.tb ∨ indB a b = true) → pairsB pre l = true
  | [], _, _ => rfl
  | d :: l, pre, h => by
    simp only [pairsB, Bool.and_eq_true]
    refine ⟨pairB_of fun j q hq => ?_, pairsB_of fun j k a b ha hb hjk hk => ?_⟩
    · have hj : j < pre.length := by
        rcases Nat.lt_or_ge j pre.length with h | h
        · exact h
        · rw [List.getElem?_eq_none h] at hq; cases hq
      rw [Nat.zero_add]
      exact h j pre.length q d (by rw [List.getElem?_append_left hj]; exact hq) (by simp) hj (Nat.le_refl _)
    · exact h j k a b (by simpa using ha) (by simpa using hb) hjk (by simp at hk; omega)
theorem restN_mem {t : List Nat} : ∀ {k j : Nat}, j < k → j ∈ t ∨ j ∈ restN t k
  | k + 1, j, h => by
    simp only [restN]
    cases hb : has t k with
    | true =>
      rw [cond_true]
      by_cases e : j = k
      · subst e; exact .inl (has_iff.1 hb)
      · exact restN_mem (by omega)
    | false =>
      rw [cond_false]
      by_cases e : j = k
      · subst e; exact .inr (List.mem_cons_self ..)
      · exact (restN_mem (k := k) (by omega)).imp id (List.mem_cons_of_mem _)
theorem freeT_get : ∀ {tb : List (List Nat)} {k0 k : Nat} {f : List Nat}, (freeT k0 tb)[k]? = some f → ∃ t, tb[k]? = some t ∧ f = restN t (k0 + k)
  | t :: r, k0, 0, f, h => by
    have h : restN t k0 = f := Option.some.inj h
    exact ⟨t, rfl, h.symm⟩
  | t :: r, k0, k + 1, f, h => by
    obtain ⟨t', h1, h2⟩ := freeT_get (tb := r) (k0 := k0 + 1) (k := k) h
    exact ⟨t', h1, by rw [h2, show k0 + 1 + k = k0 + (k + 1) by omega]⟩
  | [], _, _, _, h => by cases h
theorem freeB_out {E : List De} : ∀ {l : List De} {fr : List (List Nat)} {k : Nat} {d : De}, freeB E l fr = true → l[k]? = some d → ∃ f, fr[k]? = some f ∧ ∀ j ∈ f, ∃ q : De, E[j]? = some q ∧ indB q d = true
  | d :: l, fr, k, d', h, hd => by
    cases fr with
    | nil => cases h
    | cons f r =>
      have h : (f.all (indE E d) && freeB E l r) = true := h
      simp only [Bool.and_eq_true, List.all_eq_true] at h
      cases k with
      | zero =>
        have hd : d = d' := Option.some.inj hd
        subst hd
        refine ⟨f, rfl, fun j hj => ?_⟩
        have := h.1 j hj
        unfold indE at this
        cases hq : nth E j with
        | none => rw [hq] at this; cases this
        | some q => rw [hq] at this; rw [nth_eq] at hq; exact ⟨q, hq, this⟩
      | succ k => exact freeB_out (l := l) (fr := r) (k := k) h.2 hd
  | [], _, _, _, _, hd => by cases hd
theorem statB_out {tb0 : List (List Nat)} : ∀ {tb : List (List Nat)} {l : List Oper} {k0 k : Nat} {t : List Nat} {o : Oper}, statB tb0 k0 tb l = true → tb[k]? = some t → l[k]? = some o → (∀ j ∈ t, j < k0 + k ∧ (j ∈ edL o.after.toList ∨ ∃ e ∈ edL o.after.toList, ∃ q, tb0[e]? = some q ∧ j ∈ q)) ∧ ∀ e ∈ edL o.after.toList, e < k0 + k
  | t :: r, o :: l, k0, k, t', o', h, ht, ho => by
    simp only [statB, Bool.and_eq_true, List.all_eq_true, Nat.blt_eq, Bool.or_eq_true, List.any_eq_true] at h
    obtain ⟨⟨h1, h2⟩, h3⟩ := h
    cases k with
    | zero =>
      have ht : t = t' := Option.some.inj ht
      have ho : o = o' := Option.some.inj ho
      subst ht; subst ho
      refine ⟨fun j hj => ⟨(h1 j hj).1, ?_⟩, h2⟩
      rcases (h1 j hj).2 with h | ⟨e, he, h⟩
      · exact .inl (has_iff.1 h)
      · unfold anyE at h
        cases hq : nth tb0 e with
        | none => rw [hq] at h; cases h
        | some q => rw [hq] at h; rw [nth_eq] at hq; exact .inr ⟨e, he, q, hq, has_iff.1 h⟩
    | succ k =>
      have := statB_out (tb := r) (l := l) (k0 := k0 + 1) (k := k) h3 ht ho
      rwa [show k0 + 1 + k = k0 + (k + 1) by omega] at this
  | [], _, _, _, _, _, _, ht, _ => by cases ht
  | _ :: _, [], _, _, _, _, _, _, ho => by cases ho
theorem mkE_tb {g : Gh} : ∀ {T : List Dr} {tb : List (List Nat)} {l : List Oper} {k : Nat} {d : De}, (mkE g T tb l)[k]? = some d → tb[k]? = some d.tb
  | r :: T, t :: tb, o :: l, 0, d, h => by
    have h : De.mk r ((unionL g.o r.lk ++ (r.ft ++ unionL g.r r.ft))) t (edL o.after.toList) = d := Option.some.inj h
    subst h; rfl
  | r :: T, t :: tb, o :: l, k + 1, d, h => mkE_tb (T := T) (tb := tb) (l := l) (k := k) h
  | [], _, _, _, _, h => by cases h
  | _ :: _, [], _, _, _, h => by cases h
  | _ :: _, _ :: _, [], _, _, h => by cases h
theorem forceL_eq {Z : Type} : ∀ (l : List Nat) (K : List Nat → Z), forceL l K = K l
  | [], _ => rfl
  | x :: l, K => forceL_eq l _
theorem forceLL_eq {Z : Type} : ∀ (l : List (List Nat)) (K : List (List Nat) → Z), forceLL l K = K l
  | [], _ => rfl
  | x :: l, K => by simp only [forceLL, forceL_eq, forceLL_eq l]
theorem mkF_eq {Z : Type} {g : Gh} : ∀ (T : List Dr) (tb : List (List Nat)) (l : List Oper) (K : List De → Z), mkF g T tb l K = K (mkE g T tb l)
  | r :: T, t :: tb, o :: l, K => by
    simp only [mkF, forceL_eq, mkF_eq T tb l, mkE]
  | [], _, _, _ => rfl
  | _ :: _, [], _, _ => rfl
  | _ :: _, _ :: _, [], _ => rfl
theorem mkE_F {g : Gh} : ∀ {T : List Dr} {tb : List (List Nat)} {l : List Oper} {k : Nat} {d : De}, (mkE g T tb l)[k]? = some d → d.F = unionL g.o d.r.lk ++ (d.r.ft ++ unionL g.r d.r.ft)
  | r :: T, t :: tb, o :: l, 0, d, h => by
    have h : De.mk r (unionL g.o r.lk ++ (r.ft ++ unionL g.r r.ft)) t (edL o.after.toList) = d := Option.some.inj h
    subst h; rfl
  | r :: T, t :: tb, o :: l, k + 1, d, h => mkE_F (T := T) (tb := tb) (l := l) (k := k) h
  | [], _, _, _, _, h => by cases h
  | _ :: _, [], _, _, _, h => by cases h
  | _ :: _, _ :: _, [], _, _, h => by cases h
theorem subB_of {l F : List Nat} (h : ∀ c ∈ l, c ∈ F) : subB l F = true := List.all_eq_true.2 fun c hc => has_iff.2 (h c hc)
theorem unputs_mem {s : SV} {i : Nat} (hi : i ∈ owns s) : ∀ {l : List Ac}, Ac.put s ∈ l → i ∈ pOwn.unputs l
  | a :: l, h => by
    rcases List.mem_cons.1 h with h | h
    · subst h; exact List.mem_append_left _ hi
    · have := unputs_mem hi h
      cases a with
      | put _ => exact List.mem_append_right _ this
      | _ => exact this
theorem pOwn_mem {s : SV} {i t : Nat} (hi : i ∈ owns s) {r : Dr} (hd : r.d = some t) (ha : Ac.put s ∈ r.as_) : ∀ {T : List Dr}, r ∈ T → i ∈ pOwn t T
  | q :: T, h => by
    simp only [pOwn]
    rcases List.mem_cons.1 h with h | h
    · subst h
      refine List.mem_append_left _ ?_
      rw [hd]
      simp only [Nat.beq_refl, cond_true]
      exact unputs_mem hi ha
    · exact List.mem_append_right _ (pOwn_mem hi hd ha h)
theorem unrows_mem {a : Ac} {i c : Nat} (hi : idA a = some i) (hc : c ∈ coA a) : ∀ {l : List Ac}, a ∈ l → c ∈ rOwn.unrows i l
  | b :: l, h => by
    simp only [rOwn.unrows]
    rcases List.mem_cons.1 h with h | h
    · subst h
      refine List.mem_append_left _ ?_
      rw [hi]
      simp only [Nat.beq_refl, cond_true]
      exact hc
    · exact List.mem_append_right _ (unrows_mem hi hc h)
theorem rOwn_mem {a : Ac} {i c : Nat} (hi : idA a = some i) (hc : c ∈ coA a) {r : Dr} (ha : a ∈ r.as_) : ∀ {T : List Dr}, r ∈ T → c ∈ rOwn i T
  | q :: T, h => by
    simp only [rOwn]
    rcases List.mem_cons.1 h with h | h
    · subst h; exact List.mem_append_left _ (unrows_mem hi hc ha)
    · exact List.mem_append_right _ (rOwn_mem hi hc ha h)
theorem actB_of {σ : AS} {T : List Dr} {r : Dr} {a : Ac} (hr : r ∈ T) (ha : a ∈ r.as_) (hd : delB a = true) : actB (ghost σ T) r.d a = true := by
  cases a with
  | put s =>
    cases ht : r.d with
    | none => rfl
    | some t => exact subB_of fun c hc => List.mem_append_right _ (pOwn_mem hc ht ha hr)
  | new i x => exact subB_of fun c hc => List.mem_append_right _ (rOwn_mem (a := .new i x) rfl hc ha hr)
  | sto i o ns => exact subB_of fun c hc => List.mem_append_right _ (rOwn_mem (a := .sto i o ns) rfl hc ha hr)
  | cnt i t x => rfl
  | hnd i x => exact subB_of fun c hc => List.mem_append_right _ (rOwn_mem (a := .hnd i x) rfl hc ha hr)
  | del i p => exact hd
theorem lkT_addT {t u : Nat} {o : List Nat} {r : List (Nat × List Nat)} : lkT (addT t o r) u = if t = u then o else lkT r u := by
  have hk : ∀ {r : List (Nat × List Nat)}, hasKey t r = false → lkT r t = [] := by
    intro r
    induction r with
    | nil => intro _; rfl
    | cons p r ih =>
      intro h
      obtain ⟨k, o⟩ := p
      simp only [hasKey, Bool.or_eq_false_iff] at h
      show (bif Nat.beq k t then o else lkT r t) = []
      rw [h.1, cond_false]; exact ih h.2
  have hc : ∀ {o : List Nat}, lkT ((t, o) :: r) u = if t = u then o else lkT r u := fun {o} => by
    show (bif Nat.beq t u then o else lkT r u) = _
    cases hb : Nat.beq t u with
    | true => rw [if_pos (Nat.eq_of_beq_eq_true hb)]; rfl
    | false => rw [if_neg fun e => by subst e; simp at hb]; rfl
  cases o with
  | cons x l => exact hc
  | nil =>
    show lkT (bif hasKey t r then (t, []) :: r else r) u = _
    cases hh : hasKey t r with
    | true => exact hc
    | false =>
      rw [cond_false]
      by_cases e : t = u
      · subst e; rw [if_pos rfl]; exact hk hh
      · rw [if_neg e]
theorem lkT_tabE {t : Nat} : ∀ {l : List (Nat × SV)}, lkT (tabE l) t = ownsE (fnd l) t
  | [] => rfl
  | (k, s) :: l => by
    show lkT (addT k (owns s) (tabE l)) t = _
    rw [lkT_addT, lkT_tabE (l := l)]
    unfold ownsE
    rw [fnd_cons]
    by_cases e : k = t
    · rw [if_pos e, if_pos e]
    · rw [if_neg e, if_neg e]
theorem lkT_tabR {t : Nat} : ∀ {l : List (Nat × AR)}, lkT (tabR l) t = ownsA (fnd l) t
  | [] => rfl
  | (k, s) :: l => by
    show lkT (addT k (ownsR s) (tabR l)) t = _
    rw [lkT_addT, lkT_tabR (l := l)]
    unfold ownsA
    rw [fnd_cons]
    by_cases e : k = t
    · rw [if_pos e, if_pos e]
    · rw [if_neg e, if_neg e]
theorem allK_pTab {t : Nat} : ∀ {T : List Dr}, allK t (pTab T) = pOwn t T
  | [] => rfl
  | r :: l => by
    simp only [pTab, pOwn]
    rw [← allK_pTab (T := l)]
    cases r.d with
    | none => rfl
    | some d =>
      simp only
      cases hu : pOwn.unputs r.as_ with
      | nil => simp
      | cons x q =>
        simp only [allK]
        cases Nat.beq d t <;> rfl
theorem allK_rTabA {i : Nat} {z : List (Nat × List Nat)} : ∀ {l : List Ac}, allK i (rTabA l z) = rOwn.unrows i l ++ allK i z
  | [] => rfl
  | a :: l => by
    simp only [rTabA, rOwn.unrows]
    rw [List.append_assoc, ← allK_rTabA (l := l)]
    cases idA a with
    | none => rfl
    | some j =>
      simp only
      cases hc : coA a with
      | nil => simp
      | cons x q =>
        simp only [allK]
        cases Nat.beq j i <;> rfl
theorem allK_rTab {i : Nat} : ∀ {T : List Dr}, allK i (rTab T) = rOwn i T
  | [] => rfl
  | r :: l => by
    show allK i (rTabA r.as_ (rTab l)) = rOwn.unrows i r.as_ ++ rOwn i l
    rw [allK_rTabA, allK_rTab (T := l)]
theorem ghT_eq {σ : AS} {T : List Dr} : ghT (tabE σ.env) (tabR σ.res) (pTab T) (rTab T) = ghost σ T := by
  unfold ghT ghost
  congr 1
  · funext t; rw [lkT_tabE, allK_pTab]
  · funext t; rw [lkT_tabR, allK_rTab]
theorem forceD_eq {Z : Type} : ∀ (l : List Dr) (K : List Dr → Z), forceD l K = K l
  | [], _ => rfl
  | r :: l, K => by simp only [forceD, forceD_eq l]
theorem forceT_eq {Z : Type} : ∀ (l : List (Nat × List Nat)) (K : List (Nat × List Nat) → Z), forceT l K = K l
  | [], _ => rfl
  | (t, o) :: r, K => by simp only [forceT, forceL_eq, forceT_eq r]
mutual
theorem forceS_eq {Z : Type} : ∀ (s : SV) (K : SV → Z), forceS s K = K s
  | .agg l, K => by rw [forceS]; exact forceSL_eq l _
  | .fn g l, K => by rw [forceS]; exact forceSL_eq l _
  | .tup l, K => by rw [forceS]; exact forceSL_eq l _
  | .rp s o, K => by rw [forceS]; exact forceS_eq s _
  | .ap s n x k, K => by rw [forceS]; exact forceS_eq s _
  | .int k x, K => by rw [forceS]
  | .bool b, K => by rw [forceS]
  | .dat t x, K => by rw [forceS]
  | .str n x, K => by rw [forceS]
  | .ary k n x, K => by rw [forceS]
  | .own i, K => by rw [forceS]
  | .ptr i o, K => by rw [forceS]
  | .ep i t x z o, K => by rw [forceS]
  | .fv a r f, K => by rw [forceS]
  | .nilS, K => by rw [forceS]
  | .raw v, K => by rw [forceS]
  | .it ts xs, K => by rw [forceS]
  | .np t x, K => by rw [forceS]
  | .undef, K => by rw [forceS]
  | .dead, K => by rw [forceS]
theorem forceSL_eq {Z : Type} : ∀ (l : List SV) (K : List SV → Z), forceSL l K = K l
  | [], K => by rw [forceSL]
  | s :: l, K => by rw [forceSL, forceS_eq s]; exact forceSL_eq l _
end
theorem forceE_eq {Z : Type} : ∀ (l : List (Nat × SV)) (K : List (Nat × SV) → Z), forceE l K = K l
  | [], _ => rfl
  | (t, s) :: r, K => by simp only [forceE, forceS_eq, forceE_eq r]
theorem forceR_eq {Z : Type} : ∀ (l : List (Nat × AR)) (K : List (Nat × AR) → Z), forceR l K = K l
  | [], _ => rfl
  | (t, .row e l) :: r, K => by simp only [forceR, forceSL_eq, forceR_eq r]
  | (t, .own p c x) :: r, K => by simp only [forceR, forceR_eq r]
theorem forceA_eq {Z : Type} (σ : AS) (K : AS → Z) : forceA σ K = K σ := by unfold forceA; rw [forceE_eq, forceR_eq]
theorem chkD3_of {ops : List Oper} {σ : AS} {T : List Dr} (hs : statB (tabs ops) 0 (tabs ops) ops = true) (h : chkD3 ops (tabs ops) (freeT 0 (tabs ops)) (tabE σ.env) (tabR σ.res) T = true) : chkD ops σ T = true := by
  unfold chkD3 at h
  rw [forceD_eq, forceT_eq, forceT_eq, mkF_eq, ghT_eq] at h
  unfold chkD
  have hgT : ghost σ T = ghost σ T := rfl
  generalize hgg : ghost σ T = g at h hgT ⊢
  generalize hE : mkE g T (tabs ops) ops = E at h
  simp only [chkE3, Bool.and_eq_true, List.all_eq_true] at h
  obtain ⟨⟨h1, h2⟩, h3⟩ := h
  have tb : ∀ (k : Nat) (d : De), E[k]? = some d → (tabs ops)[k]? = some d.tb := fun k d hd => by rw [← hE] at hd; exact mkE_tb hd
  have get : ∀ (k : Nat) (d : De), E[k]? = some d → ∃ o : Oper, ops[k]? = some o ∧ d.es = edL o.after.toList := fun k d hd => by rw [← hE] at hd; exact (mkE_get hd).2
  have hlt : ∀ {k : Nat} {d : De}, E[k]? = some d → k < E.length := fun {k d} hx => by
    rcases Nat.lt_or_ge k E.length with h | h
    · exact h
    · rw [List.getElem?_eq_none h] at hx; cases hx
  have one : ∀ (k : Nat) (d : De), E[k]? = some d → (∀ j ∈ d.tb, j < k ∧ (j ∈ d.es ∨ ∃ e ∈ d.es, ∃ q : De, E[e]? = some q ∧ j ∈ q.tb)) ∧ ∀ e ∈ d.es, e < k := fun k d hd => by
    obtain ⟨o, ho, he⟩ := get k d hd
    have := statB_out hs (tb k d hd) ho
    rw [Nat.zero_add, ← he] at this
    refine ⟨fun j hj => ⟨(this.1 j hj).1, (this.1 j hj).2.imp id ?_⟩, this.2⟩
    rintro ⟨e, he, q, hq, hjq⟩
    have hek := this.2 e he
    have hkl := hlt hd
    obtain ⟨d', hd'⟩ : ∃ d', E[e]? = some d' := ⟨E[e]'(by omega), by rw [List.getElem?_eq_getElem]⟩
    have := tb e d' hd'
    rw [hq] at this; cases this
    exact ⟨e, he, d', hd', hjq⟩
  simp only [chkE, Bool.and_eq_true]
  refine ⟨⟨h1, allI_of fun k d hd => ?_⟩, pairsB_of fun j k a b ha hb hjk _ => ?_⟩
  · rw [Nat.zero_add]
    have h4 := h2 d (List.mem_of_getElem? hd)
    have hF : d.F = unionL g.o d.r.lk ++ (d.r.ft ++ unionL g.r d.r.ft) := by rw [← hE] at hd; exact mkE_F hd
    have hT : d.r ∈ T := by
      have hd' := hd
      rw [← hE] at hd'
      exact List.mem_of_getElem? (mkE_get hd').1
    have q1 : (d.r.ft.all fun i => has d.F i && subB (g.r i) d.F) = true := List.all_eq_true.2 fun i hi => by
      rw [Bool.and_eq_true, hF]
      exact ⟨has_iff.2 (List.mem_append_right _ (List.mem_append_left _ hi)), subB_of fun c hc => List.mem_append_right _ (List.mem_append_right _ (unionL_mem.2 ⟨i, hi, hc⟩))⟩
    have q2 : (d.r.lk.all fun t => subB (g.o t) d.F) = true := List.all_eq_true.2 fun t ht => by
      rw [hF]
      exact subB_of fun c hc => List.mem_append_left _ (unionL_mem.2 ⟨t, ht, hc⟩)
    have q3 : (d.r.as_.all fun a => actB g d.r.d a && subB (coA a) (d.F ++ wsA d.r.as_)) = true := List.all_eq_true.2 fun a ha => by
      have h5 := List.all_eq_true.1 h4 a ha
      rw [Bool.and_eq_true] at h5 ⊢
      exact ⟨by rw [← hgg]; exact actB_of hT ha h5.1, h5.2⟩
    obtain ⟨p1, p2⟩ := one k d hd
    simp only [oneB, Bool.and_eq_true]
    refine ⟨⟨⟨⟨?_, ?_⟩, q1⟩, q2⟩, q3⟩
    · simp only [List.all_eq_true, Bool.and_eq_true, Nat.blt_eq, Bool.or_eq_true, List.any_eq_true]
      refine fun j hj => ⟨(p1 j hj).1, (p1 j hj).2.imp has_iff.2 ?_⟩
      rintro ⟨e, he, q, hq, hjq⟩
      refine ⟨e, he, ?_⟩
      rw [nth_eq, hq]; exact has_iff.2 hjq
    · simp only [List.all_eq_true, Nat.blt_eq]; exact p2
  · obtain ⟨f, hf, hall⟩ := freeB_out h3 (show E[k]? = some b by simpa using hb)
    obtain ⟨t, ht, hft⟩ := freeT_get hf
    rw [Nat.zero_add] at hft
    have h5 := tb k b (by simpa using hb)
    rw [ht] at h5; cases h5
    rcases restN_mem (t := b.tb) hjk with h6 | h6
    · exact .inl h6
    · obtain ⟨q, hq, hi⟩ := hall j (by rw [hft]; exact h6)
      have ha : E[j]? = some a := by simpa using ha
      rw [hq] at ha; cases ha
      exact .inr hi
theorem chkD_out {ops : List Oper} {σ : AS} {T : List Dr} (hl : T.length = ops.length) (h : chkD ops σ T = true) : ∃ g O F, Fine ops σ T g O F := by
  unfold chkD at h
  generalize hg : ghost σ T = g at h
  generalize hE : mkE g T (tabs ops) ops = E at h
  simp only [chkE, Bool.and_eq_true] at h
  obtain ⟨⟨h1, h2⟩, h3⟩ := h
  have hlen := Nat.eq_of_beq_eq_true h1
  have get : ∀ (k : Nat) (d : De), E[k]? = some d → T[k]? = some d.r ∧ ∃ o : Oper, ops[k]? = some o ∧ d.es = edL o.after.toList := fun k d hd => by rw [← hE] at hd; exact mkE_get hd
  have has1 : ∀ k : Nat, k < ops.length → ∃ d : De, E[k]? = some d := fun k hk => ⟨E[k]'(by omega), by rw [List.getElem?_eq_getElem]⟩
  have hlt : ∀ {α : Type} {l : List α} {k : Nat} {x : α}, l[k]? = some x → k < l.length := fun {α l k x} hx => by
    rcases Nat.lt_or_ge k l.length with h | h
    · exact h
    · rw [List.getElem?_eq_none h] at hx; cases hx
  have one : ∀ (k : Nat) (d : De), E[k]? = some d → (∀ j ∈ d.tb, j < k ∧ (j ∈ d.es ∨ ∃ e ∈ d.es, ∃ q : De, E[e]? = some q ∧ j ∈ q.tb)) ∧ (∀ e ∈ d.es, e < k) ∧ (∀ i ∈ d.r.ft, i ∈ d.F ∧ ∀ c ∈ g.r i, c ∈ d.F) ∧ (∀ t ∈ d.r.lk, ∀ c ∈ g.o t, c ∈ d.F) ∧ ∀ a ∈ d.r.as_, GAct g d.r.d a ∧ ∀ c ∈ coA a, c ∈ d.F ∨ c ∈ wsA d.r.as_ := fun k d hd => by
    have := allI_out h2 hd
    rw [Nat.zero_add] at this
    simp only [oneB, Bool.and_eq_true, List.all_eq_true, Nat.blt_eq, Bool.or_eq_true, List.any_eq_true] at this
    obtain ⟨⟨⟨⟨p1, p2⟩, p3⟩, p4⟩, p5⟩ := this
    refine ⟨fun j hj => ⟨(p1 j hj).1, ?_⟩, p2, fun i hi => ⟨has_iff.1 (p3 i hi).1, subB_out (p3 i hi).2⟩, fun t ht => subB_out (p4 t ht), fun a ha => ⟨actB_out (p5 a ha).1, fun c hc => List.mem_append.1 (subB_out (p5 a ha).2 c hc)⟩⟩
    rcases (p1 j hj).2 with h | ⟨e, he, h⟩
    · exact .inl (has_iff.1 h)
    · refine .inr ⟨e, he, ?_⟩
      rw [nth_eq] at h
      cases hq : E[e]? with
      | none => rw [hq] at h; cases h
      | some q => rw [hq] at h; exact ⟨q, rfl, has_iff.1 h⟩
  have pair : ∀ (j k : Nat) (a b : De), E[j]? = some a → E[k]? = some b → j < k → j ∈ b.tb ∨ indB a b = true := fun j k a b ha hb hjk => pairsB_out (pre := []) h3 ha hb hjk (Nat.zero_le _)
  have co : ∀ (k : Nat) (d : De), E[k]? = some d → ∀ x ∈ d.r.as_, ∀ c ∈ coA x, c ∈ d.F ∨ c ∈ wsA d.r.as_ := fun k d hd x hx => ((one k d hd).2.2.2.2 x hx).2
  let O : Nat → Nat → Prop := fun j k => ∃ d : De, E[k]? = some d ∧ j ∈ d.tb
  let F : Nat → List Nat := fun k => match E[k]? with
    | some d => d.F
    | none => []
  have hF : ∀ (k : Nat) (d : De), E[k]? = some d → F k = d.F := fun k d hd => by simp only [F, hd]
  have eT : ∀ (k : Nat) (q : Dr), T[k]? = some q → ∃ d, E[k]? = some d ∧ d.r = q := fun k q hq => by
    obtain ⟨d, hd⟩ := has1 k (by have := hlt hq; omega)
    have := (get k d hd).1
    rw [hq] at this
    exact ⟨d, hd, (Option.some.inj this).symm⟩
  have low : ∀ j k, O j k → j < k := fun j k ⟨d, hd, hj⟩ => ((one k d hd).1 j hj).1
  refine ⟨g, O, F, ⟨?_, fun r hr a ha => ?_, low, fun k o ho e he => ?_, fun D hD k hk j hj => ?_, fun j k hne => ?_, fun k q hq t ht i hi => ?_, fun k q hq j hj => ?_, fun k q hq j hj i hi => ?_, fun k q hq j hne => ?_⟩⟩
  · rw [← hg]
    refine ⟨fun t s hs i hi => List.mem_append_left _ (by simp only [ownsE, hs]; exact hi), fun j a ha i hi => List.mem_append_left _ (by simp only [ownsA, ha]; exact hi)⟩
  · obtain ⟨k, hk⟩ := List.mem_iff_getElem?.1 hr
    obtain ⟨d, hd, rfl⟩ := eT k r hk
    exact ((one k d hd).2.2.2.2 a ha).1
  · obtain ⟨d, hd⟩ := has1 k (hlt ho)
    obtain ⟨_, o', ho', hes⟩ := get k d hd
    rw [ho] at ho'; cases ho'
    exact (one k d hd).2.1 e (by rw [hes]; exact he)
  · have key : ∀ n k : Nat, k < n → (∀ o : Oper, ops[k]? = some o → ∀ e ∈ edL o.after.toList, e ∈ D) → ∀ j, O j k → j ∈ D := by
      intro n
      induction n with
      | zero => intro k hk; omega
      | succ n ih =>
        intro k hkn hke j ⟨d, hd, hj⟩
        obtain ⟨_, o, ho, hes⟩ := get k d hd
        rcases ((one k d hd).1 j hj).2 with h | ⟨e, he, q, hq, hjq⟩
        · exact hke o ho j (by rw [← hes]; exact h)
        · have heD := hke o ho e (by rw [← hes]; exact he)
          have := (one k d hd).2.1 e he
          exact ih e (by omega) (fun o' ho' => hD e heD o' ho') j ⟨q, hq, hjq⟩
    exact key (k + 1) k (by omega) hk j hj
  · have main : ∀ j k, j < k → IndT T j k ∨ O j k := fun j k hjk => by
      by_cases hkl : k < ops.length
      · obtain ⟨b, hb⟩ := has1 k hkl
        obtain ⟨a, ha⟩ := has1 j (by omega)
        rcases pair j k a b ha hb hjk with h | h
        · exact .inr ⟨b, hb, h⟩
        · refine .inl fun x y hx hy => ?_
          rw [(get j a ha).1] at hx
          rw [(get k b hb).1] at hy
          cases hx; cases hy
          exact (indB_out h (co j a ha) (co k b hb)).1
      · exact .inl fun x y _ hy => absurd (hlt hy) (by omega)
    rcases Nat.lt_or_ge j k with h | h
    · exact (main j k h).imp id .inl
    · exact (main k j (by omega)).imp IndT.symm .inr
  · obtain ⟨d, hd, rfl⟩ := eT k q hq
    rw [hF k d hd]
    exact (one k d hd).2.2.2.1 t ht i hi
  · obtain ⟨d, hd, rfl⟩ := eT k q hq
    rw [hF k d hd]
    exact ((one k d hd).2.2.1 j hj).1
  · obtain ⟨d, hd, rfl⟩ := eT k q hq
    rw [hF k d hd]
    exact ((one k d hd).2.2.1 j hj).2 i hi
  · obtain ⟨d, hd, rfl⟩ := eT k q hq
    rw [hF k d hd]
    by_cases hjl : j < ops.length
    · obtain ⟨a, ha⟩ := has1 j hjl
      rcases Nat.lt_or_ge j k with h | h
      · rcases pair j k a d ha hd h with h' | h'
        · exact .inl ⟨d, hd, h'⟩
        · refine .inr (.inr fun r hr x hx => ?_)
          rw [(get j a ha).1] at hr; cases hr
          exact (indB_out h' (co j a ha) (co k d hd)).2.1 x hx
      · rcases pair k j d a hd ha (by omega) with h' | h'
        · exact .inr (.inl ⟨a, ha, h'⟩)
        · refine .inr (.inr fun r hr x hx => ?_)
          rw [(get j a ha).1] at hr; cases hr
          exact (indB_out h' (co k d hd) (co j a ha)).2.2 x hx
    · exact .inr (.inr fun r hr => absurd (hlt hr) (by omega))
end Go.Rx
namespace Go.Rx
open Go Go.Sx Go.RowKit
variable [Trk] [Sg] [Sf] {P : Program} [Se P]
variable [Anch]
theorem Holds.eqv {w0 w : World} {Mu M : List Nat} {σ σ' : AS} {L : Env} (h : Holds w0 Mu M σ L w) (he : Eqv σ σ') : Holds w0 Mu M σ' L w := by
  obtain ⟨S, ρ, γ, μ, ι, h⟩ := h
  have e2 : fnd σ.res = fnd σ'.res := funext he.2
  exact ⟨S, ρ, γ, μ, ι, h.hp, (by rw [← e2]; exact h.res), (by rw [← e2]; exact h.inj), (by rw [← e2]; exact h.row), fun t s ht => by
    rw [← he.1] at ht
    rw [← e2]; exact h.env t s ht, h.anch⟩
theorem edL_mem {e : Edge} : ∀ {l : List Edge}, e ∈ l → Region.binds .any e = true → e.on ∈ edL l
  | x :: l, h, hb => by
    simp only [edL]
    rcases List.mem_cons.1 h with h | h
    · subst h; rw [hb]; exact List.mem_cons_self ..
    · have := edL_mem h hb
      cases Region.binds .any x with
      | true => exact List.mem_cons_of_mem _ this
      | false => exact this
theorem mem_edL {j : Nat} : ∀ {l : List Edge}, j ∈ edL l → ∃ e ∈ l, Region.binds .any e = true ∧ e.on = j
  | x :: l, h => by
    simp only [edL] at h
    cases hb : Region.binds .any x with
    | true =>
      rw [hb, cond_true] at h
      rcases List.mem_cons.1 h with h | h
      · exact ⟨x, List.mem_cons_self .., hb, h.symm⟩
      · obtain ⟨e, h1, h2⟩ := mem_edL h
        exact ⟨e, List.mem_cons_of_mem _ h1, h2⟩
    | false =>
      rw [hb, cond_false] at h
      obtain ⟨e, h1, h2⟩ := mem_edL h
      exact ⟨e, List.mem_cons_of_mem _ h1, h2⟩
section
variable {w0 w : World} {Mu M : List Nat} {σ : AS} {L : Env} {G : Gx} {N : Nat} {ops : List Oper} {Y : Type} {KN : AS → Option Y} {z : Y} {ds : List Deferred} {A B : Out} {X : Nat → Out} {Z : List PanicEntry → Out} {W : List Nat}
theorem wr_dst : ∀ {ops : List Oper} {i : Nat} {o : Oper} {t : Nat}, ops[i]? = some o → t ∈ o.dst.toList → t ∈ wrOps ops
  | [], _, _, _, h, _ => by cases h
  | o :: r, 0, o', t, h, ht => by
    have h : o = o' := Option.some.inj h
    subst h
    cases hd : o.dst with
    | none => rw [hd] at ht; cases ht
    | some d =>
      rw [hd] at ht
      have ht : t ∈ [d] := ht
      simp only [wrOps, hd, List.mem_singleton.1 ht]
      exact List.mem_cons_self ..
  | o :: r, i + 1, o', t, h, ht => by
    have := wr_dst (ops := r) (i := i) h ht
    simp only [wrOps]
    cases o.dst with
    | none => exact this
    | some d => exact List.mem_cons_of_mem _ this
theorem drawn_phase {T : List Dr} {σe : AS} {g : Gh} {O : Nat → Nat → Prop} {F : Nat → List Nat} (hf : Fine ops σ T g O F) (htook : ∀ k o, ops[k]? = some o → ∃ q, T[k]? = some q ∧ Took P N ops o q (runE T (List.range k) σ)) (hend : Eqv σe (runE T (List.range ops.length) σ))
    {L0 : Env} {W : List Nat} (hWo : ∀ t ∈ wrOps ops, t ∈ W) (hA : ∀ L' w', EnvS W L0 L' → Holds w0 Mu M σe L' w' → A ds L' w') : ∀ (n : Nat) (rem D : List Nat) (listed : Array Bool) (a : Act) (w : World) (L : Env), rem.length = n → rem.Nodup → (∀ k, k ∈ rem ↔ k < ops.length ∧ listed.getD k false = false) → (∀ k, k ∈ D ↔ k < ops.length ∧ listed.getD k false = true) → listed.size = ops.length → D.Nodup →
      (∀ d ∈ D, ∀ o, ops[d]? = some o → ∀ e ∈ edL o.after.toList, e ∈ D) → D.Pairwise (fun j k => ¬ O k j) → Knows N ds L a → EnvS W L0 L → Holds w0 Mu M (runE T D σ) L w → wpAny P .any (List.toArray ops) (lift N A B X Z) n listed a w := by
  have hopa : ∀ k : Nat, (List.toArray ops)[k]? = ops[k]? := fun k => by rw [List.getElem?_toArray]
  have hsize : (List.toArray ops).size = ops.length := by simp
  intro n
  induction n with
  | zero =>
    intro rem D listed a w L hl _ hrem hmem hsz hD _ hDo hk hE hH
    have he : rem = [] := List.eq_nil_of_length_eq_zero hl
    have done : ∀ k, k < ops.length → listed.getD k false = true := fun k hk => by
      cases hb : listed.getD k false with
      | true => rfl
      | false => have := (hrem k).2 ⟨hk, hb⟩; rw [he] at this; cases this
    refine ⟨?_, ds, L, hk, hA L w hE (hH.eqv ?_)⟩
    · refine List.eq_nil_iff_forall_not_mem.2 fun k hk => ?_
      obtain ⟨h0, o, ho, _⟩ := mem_ready.1 hk
      have hk' : k < ops.length := by rw [← hsize]; exact (Array.getElem?_eq_some_iff.1 ho).1
      have := done k hk'
      rw [getD_of (by rw [hsz]; exact hk') true false, this] at h0; cases h0
    · have hp : D.Perm (List.range ops.length) := (List.perm_ext_iff_of_nodup hD List.nodup_range).2 fun k => by
        rw [hmem, List.mem_range]
        exact ⟨fun h => h.1, fun h => ⟨h, done k h⟩⟩
      refine Eqv.trans ?_ hend.symm
      refine runE_perm hf.ind _ D σ hp List.nodup_range hDo ?_
      refine List.Pairwise.imp (R := fun a b => a < b) (fun {a b} hab ho => ?_) List.pairwise_lt_range
      have := hf.low b a ho; omega
  | succ n ih =>
    intro rem D listed a w L hl hrn hrem hmem hsz hD hDc hDo hk hE hH
    have hgd : ∀ i, i < ops.length → listed.getD i true = listed.getD i false := fun i hi => getD_of (by rw [hsz]; exact hi) _ _
    have hne : rem ≠ [] := fun h => by rw [h] at hl; cases hl
    obtain ⟨k0, hk0⟩ := List.exists_mem_of_ne_nil rem hne
    refine ⟨fun h0 => ?_, fun i hi => ?_⟩
    · exfalso
      have key : ∀ m k, k < ops.length → k < m → listed.getD k false = true := by
        intro m
        induction m with
        | zero => intro k _ hm; omega
        | succ m ihm =>
          intro k hk hm
          cases hb : listed.getD k false with
          | true => rfl
          | false =>
            obtain ⟨o, ho⟩ : ∃ o, ops[k]? = some o := ⟨ops[k], by simp [hk]⟩
            have : k ∈ Region.ready .any (List.toArray ops) listed := mem_ready.2 ⟨by rw [hgd k hk]; exact hb, o, by rw [hopa]; exact ho, fun e he hbd => by
              have := hf.edge k o ho e.on (edL_mem (Array.mem_toList_iff.2 he) hbd)
              exact ihm e.on (by omega) (by omega)⟩
            rw [h0] at this; cases this
      have := key (k0 + 1) k0 ((hrem k0).1 hk0).1 (by omega)
      rw [((hrem k0).1 hk0).2] at this; cases this
    · obtain ⟨hi0, o, hoi, hiall⟩ := mem_ready.1 hi
      rw [hopa] at hoi
      have his : i < ops.length := by
        rcases Nat.lt_or_ge i ops.length with h | h
        · exact h
        · rw [List.getElem?_eq_none h] at hoi; cases hoi
      rw [hgd i his] at hi0
      have hlsz : i < listed.size := by rw [hsz]; exact his
      have hset : ∀ j, j ≠ i → (listed.setIfInBounds i true).getD j false = listed.getD j false := fun j hj => getD_set_ne false (Ne.symm hj)
      have hself : (listed.setIfInBounds i true).getD i false = true := by simp [hlsz]
      have hiD : i ∉ D := fun h => by rw [((hmem i).1 h).2] at hi0; cases hi0
      have hie : ∀ o', ops[i]? = some o' → ∀ e ∈ edL o'.after.toList, e ∈ D := fun o' ho' e he => by
        rw [hoi] at ho'; cases ho'
        obtain ⟨ed, h1, h2, h3⟩ := mem_edL he
        have h4 := hiall ed (Array.mem_toList_iff.1 h1) h2
        have h5 := hf.edge i o hoi e he
        exact (hmem e).2 ⟨by omega, by rw [← h3]; exact h4⟩
      have hDO : ∀ d ∈ D, ∀ j, O j d → j ∈ D := fun d hd j hj => hf.clos D hDc d (hDc d hd) j hj
      have hiO : ∀ j, O j i → j ∈ D := fun j hj => hf.clos D hDc i hie j hj
      obtain ⟨q, hq, hqd, hlt, htk⟩ := htook i o hoi
      have hv := view_any hf.act hf.ind hf.low (k := i) (lk := q.lk) (ft := q.ft) (F := F i) (hf.lk i q hq) (hf.cl i q hq) (hf.sub i q hq) (hf.un i q hq) hD hDO hDo hiD hiO hf.g0
      have hrun : runE T (D ++ [i]) σ = apps o.dst q.as_ (runE T D σ) := by
        rw [runE_app]
        simp only [runE, hq, Dr.run, hqd]
      -- the rest
      have rest : ∀ (a' : Act) (w' : World) (L' : Env), Knows N ds L' a' → EnvS o.dst.toList L L' → Holds w0 Mu M (apps o.dst q.as_ (runE T D σ)) L' w' → wpAny P .any (List.toArray ops) (lift N A B X Z) n (listed.setIfInBounds i true) a' w' := fun a' w' L' hk' hE' hH' => by
        refine ih (rem.erase i) (D ++ [i]) _ a' w' L' ?_ (hrn.erase i) (fun k => ?_) (fun k => ?_) (by simp [hsz]) ?_ (fun d hd o' ho' e he => ?_) ?_ hk' (hE.trans (hE'.mono fun t ht => hWo t (wr_dst hoi ht))) (by rw [hrun]; exact hH')
        · rw [List.length_erase_of_mem ((hrem _).2 ⟨his, hi0⟩), hl]; rfl
        · rw [hrn.mem_erase_iff, hrem]
          constructor
          · rintro ⟨h5, h6, h7⟩; exact ⟨h6, by rw [hset k h5]; exact h7⟩
          · rintro ⟨h5, h6⟩
            by_cases hki : k = i
            · subst hki; rw [hself] at h6; cases h6
            · exact ⟨hki, h5, by rw [hset k hki] at h6; exact h6⟩
        · rw [List.mem_append, List.mem_singleton, hmem]
          constructor
          · rintro (⟨h5, h6⟩ | h5)
            · exact ⟨h5, getD_set_true h6⟩
            · subst h5; exact ⟨his, hself⟩
          · rintro ⟨h5, h6⟩
            by_cases hki : k = i
            · exact .inr hki
            · exact .inl ⟨h5, by rw [hset k hki] at h6; exact h6⟩
        · exact List.nodup_append.2 ⟨hD, by simp, fun a ha b hb e => by
            have hb : b = i := by simpa using hb
            exact hiD (by rw [← hb, ← e]; exact ha)⟩
        · rcases List.mem_append.1 hd with hd | hd
          · exact List.mem_append_left _ (hDc d hd o' ho' e he)
          · have hd : d = i := by simpa using hd
            subst hd
            exact List.mem_append_left _ (hie o' ho' e he)
        · refine List.pairwise_append.2 ⟨hDo, by simp, fun a ha b hb ho => ?_⟩
          have hb : b = i := by simpa using hb
          subst hb
          exact hiD (hDO a ha b ho)
      obtain ⟨S, ρ, γ, μ, ι, hS⟩ := hH
      have hguard : ∀ gd t, dstOf ops gd = some t → t ∈ q.lk → ∀ s, fnd (runE T (List.range i) σ).env t = some s → fnd (runE T D σ).env t = some s := fun gd t _ ht s hs => by rw [hv.1 t ht]; exact hs
      unfold wpOp
      rw [hopa, hoi]
      simp only
      rcases htk with ⟨hg, hdo⟩ | ⟨has, gd, b, t, hg, hj, ht, hc⟩
      · have hw : Region.wanted o (yielded (List.toArray ops) a.tmps) = true := by
          rcases hg with hg | ⟨gd, b, t, hg, hj, ht, hb⟩
          · simp [Region.wanted, hg]
          · have h1 := hguard gd t hj ht _ hb
            obtain ⟨v, hv1, hv2⟩ := hS.env t _ h1
            have hv2 : v = Value.bool b := hv2
            subst hv2
            simp only [Region.wanted, hg, yielded_of hk (dstOf_arr hj) hv1, BEq.rfl]
        rw [if_pos hw]
        left
        have h1 := hdo (ops := List.toArray ops) (ds := ds) (B := B) (X := X) (Z := Z) (ty := o.type) (pos := o.pos) (af := o.after) (σ := runE T D σ) (fun x s hx => ?_) (fun j r hr => ?_) hS
        · have h2 := h1 a hk
          simp only [wpList] at h2
          rw [if_pos (by simp [Region.wanted])] at h2
          refine wp_mono2 (h2.resolve_right fun hh => noLet hh.2) ?_ (fun c a w hz => hz) noLet
          rintro a' w' ⟨ds', L', hk', rfl, hE', hH'⟩
          exact rest a' w' L' hk' hE' hH'
        · cases x with
          | tmp t =>
            have hx : (bif has q.lk t then fnd (runE T (List.range i) σ).env t else none) = some s := hx
            cases hb : has q.lk t with
            | false => rw [hb, cond_false] at hx; cases hx
            | true => rw [hb, cond_true] at hx; show fnd _ t = _; rw [hv.1 t (has_iff.1 hb)]; exact hx
          | const v => exact hx
          | func f => exact hx
          | global f => cases hx
        · have hr : (bif has q.ft j then fnd (runE T (List.range i) σ).res j else none) = some r := hr
          cases hb : has q.ft j with
          | false => rw [hb, cond_false] at hr; cases hr
          | true =>
            rw [hb, cond_true] at hr
            rw [hv.2 j (has_iff.1 hb)]
            exact hr
      · have hw : Region.wanted o (yielded (List.toArray ops) a.tmps) = false := by
          rcases hc with ⟨c, hcb, hc⟩ | hc
          · have h1 := hguard gd t hj ht _ hc
            obtain ⟨v, hv1, hv2⟩ := hS.env t _ h1
            have hv2 : v = Value.bool c := hv2
            subst hv2
            simp only [Region.wanted, hg, yielded_of hk (dstOf_arr hj) hv1]
            simpa using hcb
          · have h1 := hguard gd t hj ht _ hc
            obtain ⟨v, hv1, hv2⟩ := hS.env t _ h1
            have hv2 : v = Go.undef := hv2
            subst hv2
            have hy : yielded (List.toArray ops) a.tmps gd = none := by simp only [yielded, dstOf_arr hj, Option.bind_some, hk.val t _ hv1]; rfl
            simp only [Region.wanted, hg, hy]; rfl
        rw [hw]
        simp only [Bool.false_eq_true, if_false]
        cases hd : o.dst with
        | none =>
          refine rest _ w L ?_ (EnvS.refl _ _) ?_
          · exact hk
          · rw [has, hd]; exact ⟨S, ρ, γ, μ, ι, hS⟩
        | some d =>
          refine rest _ w ((d, undef) :: L) (hk.put (hlt d hd) _) (by rw [hd]; exact EnvS.put _ _ _) ?_
          rw [has, hd]
          exact ⟨S, ρ, γ, μ, ι, hS.put (s := .undef) rfl⟩
theorem drawn_ok [Sl (P := P)] (hG : GxOk P G) (h : runA G N ops KN σ = some z) (hW : ∀ t ∈ wrOps ops, t ∈ W) (hH : Holds w0 Mu M σ L w) (hA : ∀ σ' L' w', KN σ' = some z → Rel P W σ σ' → EnvS W L L' → Holds w0 Mu M σ' L' w' → A ds L' w') : ∀ a, Knows N ds L a → wpAny P .any (List.toArray ops) (lift N A B X Z) (List.toArray ops).size (Array.replicate (List.toArray ops).size false) a { w with drawn := w.drawn + 1 } := by
  unfold runA at h
  rw [forceA_eq, forceT_eq, forceT_eq, forceLL_eq, forceLL_eq] at h
  cases hs : statB (tabs ops) 0 (tabs ops) ops with
  | false => rw [hs] at h; exact (noS h).elim
  | true =>
  rw [hs] at h
  obtain ⟨T, σe, h1, h2, h3, h4, h5⟩ := runD_out (P := P) (σ0 := σ) (W := W) hG ops [] [] σ (by simp) rfl (Eqv.refl _) hW (show runD G N ops _ ops [] σ = some z from h)
  simp only [List.nil_append] at h1 h3 h5
  cases hc : chkD3 ops (tabs ops) (freeT 0 (tabs ops)) (tabE σ.env) (tabR σ.res) T with
  | false => rw [hc] at h1; exact (noS h1).elim
  | true =>
    rw [hc] at h1
    obtain ⟨g, O, F, hf⟩ := chkD_out h2 (chkD3_of hs hc)
    intro a ha
    have hH2 : Holds w0 Mu M σ L { w with drawn := w.drawn + 1 } := by
      obtain ⟨S, ρ, γ, μ, ι, hS⟩ := hH
      exact ⟨S, ρ, γ, μ, ι, hS.ext (Kp.drew _ _)⟩
    refine drawn_phase hf (fun k o ho => h5 k o (Nat.zero_le _) ho) h3 (L0 := L) hW (fun L' w' hE' hH' => hA σe L' w' h1 h4 hE' hH') _ (List.range ops.length) [] _ a _ L (by simp) List.nodup_range (fun k => ?_) (fun k => ?_) (by simp) List.nodup_nil (fun d hd => by cases hd) List.Pairwise.nil ha (EnvS.refl _ _) hH2
    · rw [List.mem_range]
      constructor
      · intro hk; exact ⟨hk, by simp [hk]⟩
      · intro hk; exact hk.1
    · constructor
      · intro hk; cases hk
      · rintro ⟨hk, hb⟩; simp [hk] at hb
end
end Go.Rx
namespace Go.Sx
open Go Go.RowKit
variable [Trk]
/-- Nothing is fenced; code runs in a round of a loop, or in none. -/
def Fw (r : Option Nat) : Fence := { Fence.wide with round := r }
theorem callsIn_Fw {r : Option Nat} {n : Nat} {P : Program} {f : FuncId} {args : Array Value} {w : World} {R : Ending → World → Prop} (h : Calls P f args w R) : CallsIn (Fw r) n P f args w R :=
  show CallsIn Fence.wide n P f args w R from callsIn_wide.2 h
theorem uponIn_w {r0 : Option Nat} {n : Nat} {P : Program} {o : Oper} {a : Act} {next next' : Act → World → Prop} {Q : Exit → Act → World → Prop} (hn : ∀ a w, next a w → next' a w) {r : Result Next} (h : o.upon P a next Q r) : o.uponIn (Fw r0) n P a next' Q r := by
  unfold Oper.upon at h
  split at h
  · exact hn _ _ h
  · exact hn _ _ h
  · exact hn _ _ h
  · refine ⟨fun e => (by cases e), callsIn_Fw (h.mono fun e w2 h2 => ?_)⟩
    cases e with
    | returned v => exact hn _ _ h2
    | panicked c => exact h2
    | outgrown => exact h2
  · refine ⟨fun e => (by cases e), fun c cs _ => ?_⟩
    obtain ⟨v, w2, h2, h3⟩ := h c cs
    exact ⟨v, w2, hn _ _ h2, (show StepsIn (Machine.fenced P Fence.wide) P _ _ from stepsIn_wide.2 h3)⟩
  · exact h
  · exact h.elim
theorem wpOper_w {r : Option Nat} {n : Nat} {P : Program} {Q : Exit → Act → World → Prop} (hQ : ¬ LetsOut Q) {o : Oper} {a : Act} {w : World} {K K' : Act → World → Prop} (hd : noDefer o.op = true) (hn : ∀ a w, K a w → K' a w) (h : o.wp P a w K Q ∨ (o.asks P a w ∧ LetsOut Q)) : o.wpIn (Fw r) n P a w K' Q := by
  rcases h with h | h
  · refine ⟨fun _ _ => trivial, ?_⟩
    have hs : Oper.semAt (Fw r).round a.eval o = execOp a.eval o := Oper.semAt_eq _ _ _ fun c hc => by rw [hc] at hd; simp [noDefer] at hd
    rw [hs]
    exact uponIn_w hn h
  · exact absurd h.2 hQ
theorem wpList_w {r : Option Nat} {n : Nat} {P : Program} {ops : Array Oper} {Q : Exit → Act → World → Prop} (hQ : ¬ LetsOut Q) : ∀ {os : List Oper} {a : Act} {w : World}, os.all (fun o => noDefer o.op) = true → wpList P ops Q os a w → wpListIn (Fw r) n P ops Q os a w
  | [], _, _, _, h => h
  | o :: os, a, w, hd, h => by
    simp only [List.all_cons, Bool.and_eq_true] at hd
    unfold wpList at h
    unfold wpListIn
    split at h
    · rename_i hw
      rw [if_pos hw]
      exact wpOper_w hQ hd.1 (fun a w => wpList_w hQ hd.2) h
    · rename_i hw
      rw [if_neg hw]
      exact ⟨fun _ _ => trivial, wpList_w hQ hd.2 h⟩
theorem wpAny_w {r : Option Nat} {n : Nat} {P : Program} {ops : Array Oper} {md : Region.Mode} {Q : Exit → Act → World → Prop} (hQ : ¬ LetsOut Q) (hd : ∀ (i : Nat) (o : Oper), ops[i]? = some o → noDefer o.op = true) : ∀ (k : Nat) (ls : Array Bool) (a : Act) (w : World), wpAny P md ops Q k ls a w → wpAnyIn (Fw r) n P md ops Q k ls a w
  | 0, _, _, _, h => h
  | k + 1, ls, a, w, ⟨h0, h1⟩ => ⟨h0, fun i hi => by
    have h2 := h1 i hi
    unfold wpOp at h2
    unfold wpOpIn
    cases ho : ops[i]? with
    | none => rw [ho] at h2; exact wpAny_w hQ hd k _ _ _ h2
    | some o =>
      rw [ho] at h2
      simp only at h2 ⊢
      split at h2
      · rename_i hw
        rw [if_pos hw]
        exact wpOper_w hQ (hd i o ho) (fun a w => wpAny_w hQ hd k _ a w) h2
      · rename_i hw
        rw [if_neg hw]
        exact ⟨fun _ _ => trivial, wpAny_w hQ hd k _ _ _ h2⟩⟩
/-- What code does, alone or in a round. -/
def CF (r : Option Nat) (n : Nat) (P : Program) (N : Nat) (c : Code) (ds : List Deferred) (L : Env) (w : World) (A B : Out) (X : Nat → Out) (Z : List PanicEntry → Out) : Prop := ∀ a, Knows N ds L a → c.wpIn (Fw r) n P (lift N A B X Z) a w
section
variable {r : Option Nat} {n : Nat} {P : Program} {N : Nat} {ds : List Deferred} {L : Env} {w : World} {A B : Out} {X : Nat → Out} {Z : List PanicEntry → Out}
theorem cf_wide {c : Code} (h : CF none n P N c ds L w A B X Z) : CW P N c ds L w A B X Z := fun a ha => wpIn_wide.1 (h a ha)
theorem cf_round {l : Nat} {c : Code} (h : CF (some l) n P N c ds L w A B X Z) : CI l n P N c ds L w A B X Z := h
theorem cf_reg {id : Nat} {os : List Oper} (hd : os.all (fun o => noDefer o.op) = true) (h : Reg P N os.toArray .seq os ds L w A B X Z) : CF r n P N (.region id os.toArray false) ds L w A B X Z :=
  fun a ha => wpIn_region_lit (wpList_w noOut hd (h a ha))
theorem cf_any {id : Nat} {os : List Oper} (hm : P.follows .mixedOrders = true) (hd : os.all (fun o => noDefer o.op) = true) (h : ∀ a, Knows N ds L a → wpAny P .any os.toArray (lift N A B X Z) os.toArray.size (Array.replicate os.toArray.size false) a { w with drawn := w.drawn + 1 }) : CF r n P N (.region id os.toArray true) ds L w A B X Z :=
  fun a ha => wpIn_region_any hm (wpAny_w noOut (fun i o ho => List.all_eq_true.1 hd o (List.mem_of_getElem? (by simpa using ho))) _ _ _ _ (h a ha))
theorem cf_seq {x y : Code} (h : CF r n P N x ds L w (fun ds' L' w' => CF r n P N y ds' L' w' A B X Z) B X Z) : CF r n P N (.seq x y) ds L w A B X Z := fun a ha =>
  wpIn_seq (wpIn_mono (h a ha) fun e a' w' hq => by
    cases e with
    | normal => obtain ⟨ds', L', ha', hk⟩ := hq; exact hk a' ha'
    | _ => exact hq)
theorem cf_noX {c : Code} (h : CF r n P N c ds L w A B NoX Z) : CF r n P N c ds L w A B X Z := fun a ha =>
  wpIn_mono (h a ha) fun e a' w' hq => by
    cases e with
    | exit i => obtain ⟨_, _, _, hx⟩ := hq; exact hx.elim
    | _ => exact hq
theorem cf_skip (h : A ds L w) : CF r n P N .skip ds L w A B X Z := fun a ha => wpIn_skip ⟨ds, L, ha, h⟩
theorem cf_ret (h : B ds L w) : CF r n P N .ret ds L w A B X Z := fun a ha => wpIn_ret ⟨ds, L, ha, h⟩
theorem cf_label {l : Nat} (h : A ds L w) : CF r n P N (.label l) ds L w A B X Z := fun a ha => wpIn_label ⟨ds, L, ha, h⟩
theorem stepR_scope {b : Frame} {a : Act} {k : List Item} {cs : List Frame} {w : World} {c : Code} : step P (lone (b.atR a (.code (.scope c) :: k)) cs w) = .next (lone (b.atR a (.code c :: .inScope c :: k)) cs w) :=
  step_lone_go (by simp [stepG, stepG.exec, Frame.atR])
theorem stepR_inScope {b : Frame} {a : Act} {k : List Item} {cs : List Frame} {w : World} {c : Code} : step P (lone (b.atR a (.inScope c :: k)) cs w) = .next (lone (b.atR a k) cs w) :=
  step_lone_go (by simp [stepG, stepG.exec, Frame.atR])
theorem cf_scope {c : Code} (h : CF r n P N c ds L w A B X Z) : CF r n P N (.scope c) ds L w A B X Z := fun a ha => by
  intro b k cs hro hb hr
  have h0 : (lone (b.atR a (.code (.scope c) :: k)) cs w).fenced P (Fw r) := fenced_calm hb hr rfl
  obtain ⟨e, a₁, w₁, hq, harr⟩ := h a ha b (.inScope c :: k) cs hro hb hr
  cases e with
  | normal => exact ⟨.normal, a₁, w₁, hq, .head h0 stepR_scope (StepsIn.trans harr (.one (fenced_calm hb hr rfl) stepR_inScope))⟩
  | exit id =>
    have hx : exitTo id (.inScope c :: k) = exitTo id k := by simp [exitTo]
    exact ⟨.exit id, a₁, w₁, hq, fun k' hk => .head h0 stepR_scope (harr.1 k' (by rw [hx]; exact hk)), fun hr' hk => let ⟨k₁, h1, h2⟩ := harr.2 hr' (by rw [hx]; exact hk); ⟨k₁, h1, .head h0 stepR_scope h2⟩⟩
  | goto l => exact hq.elim
  | ret => exact ⟨_, a₁, w₁, hq, .of_steps (.one h0 stepR_scope) harr⟩
  | panic ch => exact ⟨_, a₁, w₁, hq, .of_steps (.one h0 stepR_scope) harr⟩
  | outgrown => exact hq.elim
theorem cf_exit {id : Nat} (h : X id ds L w) : CF r n P N (.exit id) ds L w A B X Z := fun a ha => wpIn_exit ⟨ds, L, ha, h⟩
theorem cf_cond {c : Operand} {x y : Code} {b : Bool} (hc : ev L c = some (.bool b)) (ht : b = true → CF r n P N x ds L w A B X Z) (hf : b = false → CF r n P N y ds L w A B X Z) : CF r n P N (.cond c x y) ds L w A B X Z := fun a ha => by
  cases b with
  | true => exact wpIn_cond_true (ha.eval hc) (ht rfl a ha)
  | false => exact wpIn_cond_false (ha.eval hc) (hf rfl a ha)
theorem cf_block {id : Nat} {c : Code} (h : CF r n P N c ds L w A B (exB id A X) Z) : CF r n P N (.block id c) ds L w A B X Z := fun a ha =>
  wpIn_block (wpIn_mono (h a ha) fun e a' w' hq => by
    cases e with
    | exit i =>
      obtain ⟨ds', L', ha', hx⟩ := hq
      simp only [Exit.inBlock]
      by_cases hi : i = id
      · subst hi
        rw [if_pos rfl]
        exact ⟨ds', L', ha', by simpa [exB] using hx⟩
      · rw [if_neg hi]
        refine ⟨ds', L', ha', ?_⟩
        have hb : Nat.beq i id = false := by
          cases hb : Nat.beq i id with
          | false => rfl
          | true => exact absurd (Nat.eq_of_beq_eq_true hb) hi
        simpa [exB, hb] using hx
    | _ => exact hq)
theorem cf_loop {ι : Type} {c : Code} (E : ι → Env) (I : ι → World → Prop) (μ : ι → Nat) (i0 : ι) (h0 : I i0 w) (hs : Sub (E i0) L)
    (round : ∀ i w, I i w → CF r n P N c ds (E i) w (fun ds' L' w' => ds' = ds ∧ ∃ i', I i' w' ∧ Sub (E i') L' ∧ μ i' < μ i) B X Z) : CF r n P N (.loop c) ds L w A B X Z := by
  intro a ha b k cs hro hb hr
  have key : ∀ j a w i, μ i = j → I i w → Knows N ds (E i) a →
      ∃ e a' w', (lift N A B X Z) e a' w' ∧ ArrivesIn (Machine.fenced P (Fw r)) P (lone (b.atR a (.code c :: .inLoop c :: k)) cs w) b k cs e a' w' := by
    intro j
    induction j using Nat.strongRecOn with
    | _ j ih =>
      intro a w i hn hI hk
      obtain ⟨e, a₁, w₁, hq, harr⟩ := round i w hI a hk b (.inLoop c :: k) cs hro hb hr
      cases e with
      | normal =>
        obtain ⟨ds₁, L₁, hk₁, rfl, i', hI', hs', hlt⟩ := hq
        obtain ⟨e₂, a₂, w₂, hq₂, harr₂⟩ := ih (μ i') (hn ▸ hlt) a₁ w₁ i' rfl hI' (hk₁.sub hs')
        exact ⟨e₂, a₂, w₂, hq₂, .of_steps (StepsIn.trans harr (.one (fenced_calm hb hr rfl) stepR_inLoop)) harr₂⟩
      | exit id => exact ⟨.exit id, a₁, w₁, hq, .pass (x := .inLoop c) rfl (fun _ _ => .inl (by simp)) harr⟩
      | goto l => exact hq.elim
      | ret => exact ⟨.ret, a₁, w₁, hq, .pass (x := .inLoop c) rfl (fun _ _ => .inl (by simp)) harr⟩
      | panic ch => exact ⟨.panic ch, a₁, w₁, hq, .pass (x := .inLoop c) rfl (fun _ _ => .inl (by simp)) harr⟩
      | outgrown => exact hq.elim
  obtain ⟨e, a', w', hq, harr⟩ := key _ a w i0 rfl h0 (ha.sub hs)
  exact ⟨e, a', w', hq, .of_steps (.one (fenced_calm hb hr rfl) stepR_loop) harr⟩
end
end Go.Sx
namespace Go.Rx
open Go Go.Sx Go.RowKit
variable [Trk] [Sg] [Sf] {P : Program} [Se P]
theorem own_len {t : Ty} {e : Nat} {M M' : List Nat} {w w' : World} {v : Value} {x y : List (den t)} (h : Sx.Own (enc (P := P) t) e 0 M w v x) (h' : Sx.Own (enc (P := P) t) e 0 M' w' v y) : y.length = x.length := by
  rcases h with ⟨a, rfl, rfl⟩ | ⟨g, cap, cur, rfl, _⟩
  · rcases h' with ⟨a', _, rfl⟩ | ⟨g', cap', cur', h1, _⟩
    · rfl
    · injection h1 with h1 h2 h3; omega
  · rcases h' with ⟨a', h1, rfl⟩ | ⟨g', cap', cur', h1, _⟩
    · injection h1 with h1 h2 h3; omega
    · injection h1 with h1 h2 h3; exact h2.symm
theorem oc_len {c : Oc} {x y : den c.ty} {v : Value} {M M' : List Nat} {w w' : World} (h : (ocR (P := P) [] v c x).holds M w) (h' : (ocR (P := P) [] v c y).holds M' w') {p : Bool} {e : Nat} {t : Ty} {xs : List (den t)} (he : AR.own false c x = .own p (.sl e t) xs) : ∃ ys : List (den t), AR.own false c y = .own p (.sl e t) ys ∧ ys.length = xs.length := by
  cases c with
  | mp m k u => injection he with _ he; cases he
  | sl e1 t1 =>
    injection he with h1 h2 h3
    injection h2 with h4 h5
    subst h1; subst h4; subst h5
    have h3 := eq_of_heq h3
    subst h3
    exact ⟨y, rfl, own_len (P := P) h h'⟩
section
variable {ρ : Nat → Value} {R : Nat → Option AR} {M : List Nat} {w : World}
theorem OkV.at : ∀ {ss : List SV} {vs : List Value} {i : Nat} {s : SV}, OkV (P := P) ρ R M w ss vs → ss[i]? = some s → ∃ v, vs[i]? = some v ∧ Ok (P := P) ρ R M w s v
  | [], _, _, _, _, h => by cases h
  | _ :: _, _, 0, _, ⟨u, r, h1, h2, _⟩, h => by cases h; subst h1; exact ⟨u, rfl, h2⟩
  | _ :: _, _, i + 1, _, ⟨u, r, h1, _, h3⟩, h => by subst h1; exact OkV.at h3 (i := i) h
theorem OkV.erase : ∀ {ss : List SV} {vs : List Value} {i : Nat}, OkV (P := P) ρ R M w ss vs → OkV (P := P) ρ R M w (ss.eraseIdx i) (vs.eraseIdx i)
  | [], _, _, h => by have h : _ = [] := h; subst h; exact rfl
  | _ :: _, _, 0, ⟨u, r, h1, _, h3⟩ => by subst h1; exact h3
  | _ :: _, _, i + 1, ⟨u, r, h1, h2, h3⟩ => by subst h1; exact ⟨u, _, rfl, h2, OkV.erase (i := i) h3⟩
end
section
variable [Anch]
variable {w0 w w' : World} {Mu M : List Nat} {σ : AS} {L : Env} {S : List Res} {ρ : Nat → Value} {γ : Nat → List Value} {μ : Nat → List Nat} {ι : Nat → Nat} {G : Gx} {d : Option Nat}
theorem mut_main [Sl (P := P)] (h : HS w0 Mu M σ L w S ρ γ μ ι) (hG : GxOk P G) {g id : Nat} {xs : List Operand} {ss ss' : List SV} {c : CtrM} {j : Nat} {c' : Oc} {x : den c'.ty} {x0 : den c.c.ty} {a : denP c.ps} {r : denK c.rs × den c.c.ty} (hop : ∀ ρ R M w vs, OkV (P := P) ρ R M w ss vs → OkV (P := P) ρ R M w ss' vs)
    (ha : evL (evS σ.env) xs = some ss) (hc : fnd G.fm g = some c) (hj : ss'[c.i]? = some (.own j)) (hR : fnd σ.res j = some (.own false c' x)) (hx : castO c' c.c x = some x0) (ho : ownsLL (ss'.eraseIdx c.i) = []) (hd : argsD G (fnd σ.res) c.ps (ss'.eraseIdx c.i) = some a) (hF : c.F a x0 = some r) :
    ∃ vs, evs L xs = some vs ∧ CallsV P (.func (.func g) #[] #[]) vs w fun e w' => ∃ v, e = .returned v ∧ ∃ S' γ', HS w0 Mu M (apps d [.cnt j c.c r.2] σ) L w' S' ρ γ' μ ι ∧ Ok ρ (fnd (apps d [.cnt j c.c r.2] σ).res) (mm S' M) w' (tupS (resS id c.rs r.1).1) v := by
  obtain ⟨he, hx⟩ := castO_some hx
  subst he
  have hx : x = x0 := hx
  subst hx
  obtain ⟨vs, h3, h4⟩ := h.evL ha
  have h5 := hop _ _ _ _ _ h4
  obtain ⟨⟨h0, hok⟩, hen⟩ := FmOk.at hG.fm hc
  obtain ⟨v, h6, h7, _⟩ := h5.at hj
  subst h7
  have hS : S[ι j]? = some (ocR (P := P) [] (ρ j) c.c x) := h.res j _ hR
  have hrow : Hnd (ρ j) c.c := h.row j _ hR
  have hsub : ∀ b ∈ obO c.c (ρ j) ++ mm (S.eraseIdx (ι j)) M, b ∈ mm S M := fun b hb => (List.mem_append.1 hb).elim (fun hb => mem_mm.2 (.inl ⟨_, List.mem_of_getElem? hS, mem_ocR hb⟩)) fun hb => mm_sub (List.eraseIdx_sublist S (ι j)) hb
  have hap : ∀ b ∈ obO c.c (ρ j), b ∉ mm (S.eraseIdx (ι j)) M := fun b hb => h.hp.apart (ι j) hS b (mem_ocR hb)
  have hargs := argsD_ok hG (M' := obO c.c (ρ j) ++ mm (S.eraseIdx (ι j)) M) hsub c.ps (w := w) (ρ := ρ) (γ := γ) _ (by rw [ho]; exact RdN.nil) hd (h5.erase (i := c.i))
  have hh : (ocR (P := P) [] (ρ j) c.c x).holds (obO c.c (ρ j) ++ mm (S.eraseIdx (ι j)) M) w := (ocR (P := P) [] (ρ j) c.c x).adv (Adv.drop hsub) (fun _ _ => rfl) (h.hp.get (ι j) hS)
  refine ⟨vs, h3, CallsV.go hen (List.append_nil vs) (hok (mm (S.eraseIdx (ι j)) M) w a x (ρ j) (vs.eraseIdx c.i) vs r.1 r.2 (fun b hb => h.hp.mlt b (hsub b hb)) hap hargs h6 rfl hrow hh hF) ?_⟩
  rintro e w' ⟨us, rfl, hks, hkp, hh'⟩
  have hfp : (ocR (P := P) [] (ρ j) c.c x).fp = obO c.c (ρ j) := ocR_fp
  have hfp' : (ocR (P := P) [] (ρ j) c.c r.2).fp = obO c.c (ρ j) := ocR_fp
  have hk : Kp (ocR (P := P) [] (ρ j) c.c x).fp w w' := by rw [hfp]; exact hkp
  have hn : ∀ b ∈ (ocR (P := P) [] (ρ j) c.c r.2).fp, b ∈ (ocR (P := P) [] (ρ j) c.c x).fp ∨ w.heap.size ≤ b := fun b hb => .inl (by rw [hfp]; rw [hfp'] at hb; exact hb)
  have hp := h.hp.upd2 (r' := ocR (P := P) [] (ρ j) c.c r.2) (ι j) hS hk hn (by rw [ocR_mu, ocR_mu]) fun M' hM' => (ocR (P := P) [] (ρ j) c.c r.2).adv (Adv.drop fun b hb => by
    rcases hM' b hb with hb | hb
    · rw [hfp'] at hb; exact List.mem_append_left _ hb
    · exact List.mem_append_right _ hb) (fun _ _ => rfl) hh'
  have hA := h.hp.updA (r' := ocR (P := P) [] (ρ j) c.c r.2) (ι j) hS hk hn
  have hgg : cntR c.c r.2 (.own false c.c x) = .own false c.c r.2 := by simp only [cntR, castO, dif_pos]
  have h9 := h.upd (i := j) (r := .own false c.c r.2) (cs := γ j) (g := cntR c.c r.2) (c := [0]) hR hgg hp hA (fun p e t xs he => oc_len hh hh' he) hrow
  obtain ⟨_, _, h10⟩ := res_d c.rs id h0 hks
  refine ⟨_, rfl, _, _, h9, tup_ok (h10 _ _ _ fun b hb => ?_)⟩
  rcases mm_setE hS hb with hb | hb
  · have hb : b ∈ (ocR (P := P) [] (ρ j) c.c r.2).fp := hb
    rw [hfp'] at hb; exact List.mem_append_left _ hb
  · exact List.mem_append_right _ hb
theorem c_mut [Sl (P := P)] {N : Nat} {ops : Array Oper} {ds : List Deferred} {B : Out} {X : Nat → Out} {Z : List PanicEntry → Out} {ty : TypeId} {pos : String} {af : Array Edge} (h : HS w0 Mu M σ L w S ρ γ μ ι) (hG : GxOk P G) (hN : (match d with | some d => Nat.blt d N | none => true) = true) {g id : Nat} {xs : Array Operand} {ts : Array TypeId} {ss ss' : List SV} {c : CtrM} {j : Nat} {c' : Oc} {x : den c'.ty} {x0 : den c.c.ty} {a : denP c.ps} {r : denK c.rs × den c.c.ty} (hop : ∀ ρ R M w vs, OkV (P := P) ρ R M w ss vs → OkV (P := P) ρ R M w ss' vs)
    (ha : evL (evS σ.env) xs.toList = some ss) (hc : fnd G.fm g = some c) (hj : ss'[c.i]? = some (.own j)) (hR : fnd σ.res j = some (.own false c' x)) (hx : castO c' c.c x = some x0) (ho : ownsLL (ss'.eraseIdx c.i) = []) (hd : argsD G (fnd σ.res) c.ps (ss'.eraseIdx c.i) = some a) (hF : c.F a x0 = some r) :
    Goes P N ops ds L w ⟨d, .call ⟨.value (.func g), xs, ts⟩, ty, pos, af, none⟩ w0 Mu M (apps d [.cnt j c.c r.2, .put (tupS (resS id c.rs r.1).1)] σ) B X Z := by
  obtain ⟨vs, h1, h2⟩ := mut_main (d := d) (id := id) h hG hop ha hc hj hR hx ho hd hF
  obtain ⟨xs⟩ := xs
  cases d with
  | some d =>
    refine s_callV rfl h1 hN (h2.mono ?_)
    rintro e w2 ⟨v, rfl, S', γ', h4, h5⟩
    exact ⟨v, rfl, h4.fin h5⟩
  | none =>
    refine s_callV0 rfl h1 (h2.mono ?_)
    rintro e w2 ⟨v, rfl, S', γ', h4, h5⟩
    exact ⟨v, rfl, Reg.nil ⟨rfl, EnvS.refl _ _, S', ρ, γ', μ, ι, h4⟩⟩
theorem mutO_out {o : Oper} {c : CtrM} {args : List Operand} (h : mutO G o = some (c, args)) : o.guard = none ∧ ∃ g xs ts, o.op = .call ⟨.value (.func g), xs, ts⟩ ∧ fnd G.fm g = some c ∧ args = xs.toList := by
  unfold mutO at h
  split at h
  · rename_i h1 h2
    split at h
    · rename_i h3
      cases h
      exact ⟨h1, _, _, _, h2, h3, rfl⟩
    · cases h
  · cases h
theorem mutC_out {Z : Type} {z : Z} {id : Nat} {R : Nat → Option AR} {c : CtrM} {K : List Ac → Option Z} {ss : List SV} (h : mutC G id R c K ss = some z) : ∃ (j : Nat) (c' : Oc) (x : den c'.ty) (x0 : den c.c.ty) (a : denP c.ps) (r : denK c.rs × den c.c.ty), ss[c.i]? = some (.own j) ∧ R j = some (.own false c' x) ∧ castO c' c.c x = some x0 ∧ ownsLL (ss.eraseIdx c.i) = [] ∧ argsD G R c.ps (ss.eraseIdx c.i) = some a ∧ c.F a x0 = some r ∧ K [.cnt j c.c r.2, .put (tupS (resS id c.rs r.1).1)] = some z := by
  unfold mutC at h
  rw [nth_eq] at h
  split at h
  · rename_i j h1
    split at h
    · rename_i c' x h2
      split at h
      · rename_i x0 h3
        split at h
        · rename_i a h4 h5
          obtain ⟨r, h6, h7⟩ := bnd h
          exact ⟨j, c', x, x0, a, r, h1, h2, h3, h4, h5, h6, h7⟩
        · cases h
      · cases h
    · cases h
  · cases h
end
end Go.Rx
namespace Go.Rx
open Go Go.Sx Go.RowKit
variable [Trk] [Sg] [Sf] {P : Program} [Se P]
variable [Anch]
theorem start_holds {w0 w : World} {Mu M : List Nat} {σ : AS} {L : Env} (h : Holds w0 Mu M σ L w) : Holds w0 Mu M σ.start L w := by
  obtain ⟨S, ρ, γ, μ, ι, h⟩ := h
  exact ⟨S, ρ, γ, μ, ι, h.hp, h.res, h.inj, h.row, h.env, h.anch⟩
theorem unstart_holds {w0 w : World} {Mu M : List Nat} {W : List Nat} {sh : Sh} {σ : AS} {x : denC sh.cs} {L : Env} (h : Holds w0 Mu M (unpack W sh σ.start x) L w) : Holds w0 Mu M (unpack W sh σ x) L w := by
  obtain ⟨S, ρ, γ, μ, ι, h⟩ := h
  exact ⟨S, ρ, γ, μ, ι, h.hp, h.res, h.inj, h.row, h.env, h.anch⟩
section
variable {Γ : Type}
theorem injK_out {f : (k : Key) → Option (keyD Γ k)} {W : List Nat} {Y : Type} {KN : AS → Option Y} {KX : Nat → AS → Option Y} {KR : Γ → Option Y} {σ : AS} : ∀ {ks : List Key} {q : keyT Γ ks}, injK f ks = some q → ∃ k ∈ ks, ∃ x, f k = some x ∧ elimK W KN KX KR σ ks q = elimD W KN KX KR σ k x
  | [], q, h => by cases h
  | [k], q, h => ⟨k, List.mem_cons_self .., q, h, rfl⟩
  | k :: j :: l, q, h => by
    simp only [injK] at h
    cases h1 : f k with
    | some x =>
      rw [h1] at h
      have h : Sum.inl x = q := Option.some.inj h
      subst h
      exact ⟨k, List.mem_cons_self .., x, h1, rfl⟩
    | none =>
      rw [h1] at h
      cases h2 : injK f (j :: l) with
      | none => rw [h2] at h; exact (noS h).elim
      | some y =>
        rw [h2] at h
        have h : Sum.inr y = q := Option.some.inj h
        subst h
        obtain ⟨k', h3, x, h4, h5⟩ := injK_out (W := W) (KN := KN) (KX := KX) (KR := KR) (σ := σ) h2
        exact ⟨k', List.mem_cons_of_mem _ h3, x, h4, h5⟩
theorem slotsK_norm {sh : Sh} : ∀ {ks : List Key}, Key.norm sh ∈ ks → ∀ t ∈ slotsC sh.cs, t ∈ slotsK ks
  | k :: l, h, t, ht => by
    rcases List.mem_cons.1 h with h | h
    · subst h; exact List.mem_append_left _ ht
    · have := slotsK_norm h t ht
      cases k with
      | norm _ => exact List.mem_append_right _ this
      | exit _ _ => exact List.mem_append_right _ this
      | ret => exact this
theorem slotsK_exit {sh : Sh} {i : Nat} : ∀ {ks : List Key}, Key.exit i sh ∈ ks → ∀ t ∈ slotsC sh.cs, t ∈ slotsK ks
  | k :: l, h, t, ht => by
    rcases List.mem_cons.1 h with h | h
    · subst h; exact List.mem_append_left _ ht
    · have := slotsK_exit h t ht
      cases k with
      | norm _ => exact List.mem_append_right _ this
      | exit _ _ => exact List.mem_append_right _ this
      | ret => exact this
/-- What is thrown; what goes out. -/
structure PZ (X X1 : Nat → Out) (Z : List PanicEntry → Out) (ds : List Deferred) : Prop where
  z : ∀ (T t : Nat) (L1 L2 : Env) (w : World) (v : Value), Nat.blt t pnc = true → (∀ u, u ≠ t → Sx.look L2 u = Sx.look L1 u) → X (panX T t) ds ((t, v) :: L1) w → Z [{ v := .iface T v, recovered := false }] ds L2 w
  x : ∀ (i : Nat) (L : Env) (w : World), Nat.blt i pnc = true → X i ds L w → X1 i ds L w
theorem PZ.block {i : Nat} (hi : Nat.blt i pnc = true) {A : Out} {X X1 : Nat → Out} {Z : List PanicEntry → Out} {ds : List Deferred} (h : PZ X X1 Z ds) : PZ (exB i A X) (exB i A X1) Z ds := ⟨fun T t L1 L2 w v ht hl hx => by
  have hi : i < pnc := by simpa [Nat.blt_eq] using hi
  have hb : Nat.beq (panX T t) i = false := by
    cases hb : Nat.beq (panX T t) i with
    | false => rfl
    | true =>
      have h1 := Nat.eq_of_beq_eq_true hb
      have h2 : pnc ≤ panX T t := Nat.le_trans (Nat.le_mul_of_pos_right _ (Nat.succ_pos T)) (Nat.le_add_right _ _)
      omega
  exact h.z T t L1 L2 w v ht hl (by simpa [exB, hb] using hx), fun j L w hj hx => by
  cases hb : Nat.beq j i with
  | true => simpa [exB, hb] using hx
  | false => simpa [exB, hb] using h.x j L w hj (by simpa [exB, hb] using hx)⟩
theorem PZ.no {Z : List PanicEntry → Out} {ds : List Deferred} : PZ NoX NoX Z ds := ⟨fun _ _ _ _ _ _ _ _ h => h.elim, fun _ _ _ _ h => h⟩
theorem panL_out {m p : Oper} {T : TypeId} {x : Operand} {t : Nat} (h : panL m p = some (T, x, t)) : m.guard = none ∧ m.dst = some t ∧ m.op = .makeInterface T x ∧ p.guard = none ∧ p.op = .panic (.tmp t) := by
  unfold panL at h
  split at h
  · rename_i h1 h2 h3 h4 h5
    cases hb : Nat.beq _ _ with
    | false => rw [hb] at h; exact (noS h).elim
    | true =>
      rw [hb] at h
      have h6 := Nat.eq_of_beq_eq_true hb
      subst h6
      cases h
      exact ⟨h1, h2, h3, h4, h5⟩
  · exact (noS h).elim
theorem panO_out : ∀ {ops l : List Oper} {T : TypeId} {x : Operand} {t : Nat}, panO ops = some (l, T, x, t) → ∃ m p, ops = l ++ [m, p] ∧ panL m p = some (T, x, t)
  | [], l, T, x, t, h => (noS h).elim
  | [o], l, T, x, t, h => (noS h).elim
  | [o, p], l, T, x, t, h => by
    simp only [panO] at h
    cases hq : panL o p with
    | none => rw [hq] at h; exact (noS h).elim
    | some q =>
      rw [hq] at h
      cases h
      exact ⟨o, p, rfl, hq⟩
  | o :: a :: b :: r, l, T, x, t, h => by
    have h : (match panO (a :: b :: r) with
      | some (l, q) => some (o :: l, q)
      | none => none) = some (l, T, x, t) := h
    cases hq : panO (a :: b :: r) with
    | none => rw [hq] at h; exact (noS h).elim
    | some q =>
      obtain ⟨l', T', x', t'⟩ := q
      rw [hq] at h
      cases h
      obtain ⟨m, p, h1, h2⟩ := panO_out hq
      exact ⟨m, p, by rw [h1]; rfl, h2⟩
theorem wrOps_pan {m p : Oper} {t u : Nat} (hm : m.dst = some t) : ∀ {l : List Oper}, u ∈ wrOps l ∨ u = t → u ∈ wrOps (l ++ [m, p])
  | [], h => by
    show u ∈ wrOps [m, p]
    simp only [wrOps, hm]
    rcases h with h | h
    · cases h
    · rw [h]; exact List.mem_cons_self ..
  | o :: l, h => by
    rw [List.cons_append]
    simp only [wrOps] at h ⊢
    cases ho : o.dst with
    | none => rw [ho] at h; exact wrOps_pan hm h
    | some d =>
      rw [ho] at h
      rcases h with h | h
      · rcases List.mem_cons.1 h with h | h
        · rw [h]; exact List.mem_cons_self ..
        · exact List.mem_cons_of_mem _ (wrOps_pan hm (.inl h))
      · exact List.mem_cons_of_mem _ (wrOps_pan hm (.inr h))
theorem wpList_app {N : Nat} {ops : Array Oper} {A A' B : Out} {X : Nat → Out} {Z : List PanicEntry → Out} {rest : List Oper} (hr : ∀ a w, lift N A' B X Z .normal a w → wpList P ops (lift N A B X Z) rest a w) : ∀ (l : List Oper) (a : Act) (w : World), wpList P ops (lift N A' B X Z) l a w → wpList P ops (lift N A B X Z) (l ++ rest) a w
  | [], a, w, h => hr a w h
  | o :: l, a, w, h => by
    rw [List.cons_append]
    simp only [wpList] at h ⊢
    split
    · rename_i hw
      rw [if_pos hw] at h
      exact .inl (wp_mono2 (h.resolve_right fun hh => noLet hh.2) (fun a w h => wpList_app hr l a w h) (fun c a w hz => hz) noLet)
    · rename_i hw
      rw [if_neg hw] at h
      exact wpList_app hr l _ w h
theorem pan_ok {N : Nat} {ops : Array Oper} {m p : Oper} {T : TypeId} {x : Operand} {t : Nat} {fields : Array Field} {v : Value} {ds : List Deferred} {L : Env} {w : World} {A B : Out} {X : Nat → Out} {Z : List PanicEntry → Out} (hq : panL m p = some (T, x, t)) (hT : P.underlying T = some (.struct fields)) (ht : Nat.blt t N = true) (hv : ev L x = some v) (hz : Z [{ v := .iface T v, recovered := false }] ds ((t, .iface T v) :: L) w) : Reg P N ops .seq [m, p] ds L w A B X Z := fun a ha => by
  obtain ⟨h1, h2, h3, h4, h5⟩ := panL_out hq
  simp only [wpList]
  have w1 : Region.wanted m (yielded ops a.tmps) = true := by simp [Region.wanted, h1]
  rw [if_pos w1]
  left
  have e1 : (execOp a.eval m).run P w = .ok (.value (.iface T v)) w := by
    obtain ⟨md, mop, mt, mpos, maf, mg⟩ := m
    have h3 : mop = .makeInterface T x := h3
    subst h3
    simp [execOp, Instr.makeInterface, ha.eval hv, run_underlying hT]
  unfold Oper.wp
  rw [e1, Oper.upon_value, h2]
  have hk := ha.put ht (.iface T v)
  have w2 : Region.wanted p (yielded ops (a.put (some t) (.iface T v)).tmps) = true := by simp [Region.wanted, h4]
  rw [if_pos w2]
  left
  show p.wp P (a.put (some t) (.iface T v)) w _ _
  have e2 : (execOp (a.put (some t) (.iface T v)).eval p).run P w = .halt (.panic (.iface T v)) w := by
    obtain ⟨pd, pop, pt, ppos, paf, pg⟩ := p
    have h5 : pop = .panic (.tmp t) := h5
    subst h5
    have hx : (a.put (some t) (.iface T v)).eval (.tmp t) = .iface T v := hk.eval (by show Sx.look _ t = _; rw [look_cons, if_pos rfl])
    simp [execOp, hx, Instr.panic, goPanic]
  unfold Oper.wp
  rw [e2, Oper.upon_panic]
  exact ⟨ds, _, hk, hz⟩
theorem plainT_ok {t : Ty} (h : plainT t = true) {M M' : List Nat} {w w' : World} {cs : List Value} {x : den t} (hx : (enc (P := P) t).R M w cs x) : (enc (P := P) t).R M' w' cs x := by
  cases t with
  | int k => exact hx
  | bool => exact hx
  | _ => cases h
theorem plainL_ok : ∀ {l : List Ty}, l.all plainT = true → ∀ {M M' : List Nat} {w w' : World} {cs : List Value} {x : tupT l}, (tupE (P := P) l).R M w cs x → (tupE (P := P) l).R M' w' cs x
  | [], _, _, _, _, _, _, _, h => h
  | [t], hl, _, _, _, _, _, _, h => plainT_ok (by simpa using hl) h
  | t :: u :: l, hl, _, _, _, _, _, _, h => by
    have h1 : plainT t = true := by simp only [List.all_cons, Bool.and_eq_true] at hl; exact hl.1
    have h2 : (u :: l).all plainT = true := by simp only [List.all_cons, Bool.and_eq_true] at hl ⊢; exact hl.2
    obtain ⟨c1, c2, e, h3, h4⟩ := h
    exact ⟨c1, c2, e, plainT_ok h1 h3, plainL_ok h2 h4⟩
theorem plainTy_ok [Sl (P := P)] {t : Ty} (h : plainTy t = true) {M M' : List Nat} {w w' : World} {x : den t} {v : Value} (hx : OkD (P := P) M w t x v) : OkD (P := P) M' w' t x v := by
  obtain ⟨cs, h1, h2⟩ := hx
  refine ⟨cs, ?_, h2⟩
  cases t with
  | int k => exact plainT_ok (t := .int k) h h1
  | bool => exact plainT_ok (t := .bool) h h1
  | st n => exact (Sl.is n M' w' cs x).2 (plainL_ok h ((Sl.is n M w cs x).1 h1))
  | _ => cases h
theorem throO_out {G : Gx} {o : Oper} {c : CtrP} {args : List Operand} (h : throO G o = some (c, args)) : o.guard = none ∧ ∃ g xs ts, o.op = .call ⟨.value (.func g), xs, ts⟩ ∧ fnd G.pf g = some c ∧ args = xs.toList := by
  unfold throO at h
  split at h
  · rename_i g xs ts h1 h2
    cases hf : fnd G.pf g with
    | none => rw [hf] at h; exact (noS h).elim
    | some c' => rw [hf] at h; cases h; exact ⟨h1, g, xs, ts, h2, hf, rfl⟩
  · exact (noS h).elim
theorem regR_ok [Sl (P := P)] {G : Gx} (hG : GxOk P G) {N : Nat} {all : List Oper} {t : Nat} (ht : Nat.blt t N = true) (htp : Nat.blt t pnc = true) {Y : Type} {KN : AS → Option Y} {KX : Nat → AS → Option Y} {z : Y} {ds : List Deferred} {w0 : World} {Mu M : List Nat} {A B : Out} {X X1 : Nat → Out} {Z : List PanicEntry → Out} {W : List Nat} (htW : t ∈ W) (hP : PZ X X1 Z ds) :
    ∀ (l : List Oper) (σ : AS) (L : Env) (w : World), regR G N all t KN KX l σ = some z → (∀ t ∈ wrOps l, t ∈ W) → Holds w0 Mu M σ L w →
      (∀ σ' L' w', KN σ' = some z → Rel P W σ σ' → EnvS W L L' → Holds w0 Mu M σ' L' w' → A ds L' w') →
      (∀ i σ' L' w', KX i σ' = some z → Rel P W σ σ' → EnvS W L L' → Holds w0 Mu M σ' L' w' → X i ds L' w') → Reg P N (List.toArray all) .seq l ds L w A B X1 Z
  | [], σ, L, w, h, _, hH, hA, _ => Reg.nil (hA σ L w h (Rel.refl σ) (EnvS.refl _ _) hH)
  | o :: r, σ, L, w, h, hW, hH, hA, hX => by
    have hW1 : ∀ u ∈ wrOps [o], u ∈ W := fun u hu => hW u (by
      simp only [wrOps] at hu ⊢
      cases hd : o.dst with
      | none => rw [hd] at hu; cases hu
      | some d => rw [hd] at hu; exact List.mem_cons.2 (.inl (List.mem_singleton.1 hu)))
    have hW2 : ∀ u ∈ wrOps r, u ∈ W := fun u hu => hW u (by
      simp only [wrOps]
      cases o.dst with
      | none => exact hu
      | some d => exact List.mem_cons_of_mem _ hu)
    have go : runOps G N all (regR G N all t KN KX r) [o] σ = some z → Reg P N (List.toArray all) .seq (o :: r) ds L w A B X1 Z := fun h => by
      have key := runOps_ok (P := P) (ops := all) (ds := ds) (B := B) (X := X1) (Z := Z) (W := W) hG [o] σ L w h hW1 hH (A := fun ds' L' w' => Reg P N (List.toArray all) .seq r ds' L' w' A B X1 Z) fun σ' L' w' hK hR hE hH' => by
        exact regR_ok hG ht htp htW hP r σ' L' w' hK hW2 hH' (fun σ2 L2 w2 h2 hR2 hE2 hH2 => hA σ2 L2 w2 h2 (hR.trans hR2) (hE.trans hE2) hH2) (fun i σ2 L2 w2 h2 hR2 hE2 hH2 => hX i σ2 L2 w2 h2 (hR.trans hR2) (hE.trans hE2) hH2)
      exact fun a ha => wpList_app (fun a w h => by
        obtain ⟨ds', L', hk, hr⟩ := h
        exact hr a hk) [o] a w (key a ha)
    cases hmu : mutO G o with
    | some q =>
      obtain ⟨c, args⟩ := q
      have h : (match mutO G o with
        | some (c, args) => match dstB N o.op o.dst, evL (evS σ.env) args with
          | true, some ss => openN ss fun ss' => mutC G (idOf o.dst) (fnd σ.res) c (fun ac => regR G N all t KN KX r (apps o.dst ac σ)) ss'
          | _, _ => none
        | none => match throO G o with
          | some (c, args) => match plainTy c.t, evL (evS σ.env) args with
            | true, some ss => openN ss fun ss' => match argsD G (fnd σ.res) c.ps ss' with
              | some a => thro (c.F a) (fun e => KX (panX c.T t) (apps (some t) [.put (ofD c.t e)] σ)) (runOps G N all (regR G N all t KN KX r) [o] σ)
              | none => none
            | _, _ => none
          | none => runOps G N all (regR G N all t KN KX r) [o] σ) = some z := h
      rw [hmu] at h
      simp only at h
      cases hdb : dstB N o.op o.dst with
      | false => rw [hdb] at h; exact (noS h).elim
      | true =>
        cases he : evL (evS σ.env) args with
        | none => rw [hdb, he] at h; exact (noS h).elim
        | some ss =>
          rw [hdb, he] at h
          obtain ⟨ss', h1, h2⟩ := openN_out (P := P) (show openN ss _ = some z from h)
          obtain ⟨j, c', x, x0, a, q, m1, m2, m3, m4, m5, m6, m7⟩ := mutC_out h1
          obtain ⟨hg, g, xs, ts, hop, hpf, rfl⟩ := mutO_out hmu
          obtain ⟨S, ρ, γ, μ, ι, hS⟩ := hH
          have hN : (match o.dst with | some d => Nat.blt d N | none => true) = true := by
            rw [hop] at hdb
            cases hd : o.dst with
            | none => rfl
            | some d => rw [hd] at hdb; exact hdb
          obtain ⟨od, oop, oty, opos, oaf, og⟩ := o
          have hop : oop = .call ⟨.value (.func g), xs, ts⟩ := hop
          have hg : og = none := hg
          subst hop; subst hg
          have key := c_mut (d := od) (N := N) (ops := List.toArray all) (ds := ds) (B := B) (X := X1) (Z := Z) (ty := oty) (pos := opos) (af := oaf) (ts := ts) (id := idOf od) hS hG hN h2 he hpf m1 m2 m3 m4 m5 m6
          refine fun a0 ha0 => wpList_app (fun a1 w1 h3 => ?_) [_] a0 w (key a0 ha0)
          obtain ⟨ds', L', hk, rfl, hE, hH'⟩ := h3
          have hWd : ∀ t, od = some t → t ∈ W := fun t ht => hW t (by simp only [wrOps, ht]; exact List.mem_cons_self ..)
          refine (regR_ok hG ht htp htW hP r _ L' w1 m7 hW2 hH' (fun σ2 L2 w2 g2 hR2 hE2 hH2 => hA σ2 L2 w2 g2 ((Rel.acts od hWd _ _).trans hR2) (EnvS.trans (hE.mono fun u hu => ?_) hE2) hH2) (fun i σ2 L2 w2 g2 hR2 hE2 hH2 => hX i σ2 L2 w2 g2 ((Rel.acts od hWd _ _).trans hR2) (EnvS.trans (hE.mono fun u hu => ?_) hE2) hH2)) a1 hk
          · cases od with
            | none => cases hu
            | some d => exact hWd u (by rw [List.mem_singleton.1 hu])
          · cases od with
            | none => cases hu
            | some d => exact hWd u (by rw [List.mem_singleton.1 hu])
    | none =>
    have h : (match mutO G o with
      | some (c, args) => match dstB N o.op o.dst, evL (evS σ.env) args with
        | true, some ss => openN ss fun ss' => mutC G (idOf o.dst) (fnd σ.res) c (fun ac => regR G N all t KN KX r (apps o.dst ac σ)) ss'
        | _, _ => none
      | none => match throO G o with
        | some (c, args) => match plainTy c.t, evL (evS σ.env) args with
          | true, some ss => openN ss fun ss' => match argsD G (fnd σ.res) c.ps ss' with
            | some a => thro (c.F a) (fun e => KX (panX c.T t) (apps (some t) [.put (ofD c.t e)] σ)) (runOps G N all (regR G N all t KN KX r) [o] σ)
            | none => none
          | _, _ => none
        | none => runOps G N all (regR G N all t KN KX r) [o] σ) = some z := h
    rw [hmu] at h
    have h : (match throO G o with
      | some (c, args) => match plainTy c.t, evL (evS σ.env) args with
        | true, some ss => openN ss fun ss' => match argsD G (fnd σ.res) c.ps ss' with
          | some a => thro (c.F a) (fun e => KX (panX c.T t) (apps (some t) [.put (ofD c.t e)] σ)) (runOps G N all (regR G N all t KN KX r) [o] σ)
          | none => none
        | _, _ => none
      | none => runOps G N all (regR G N all t KN KX r) [o] σ) = some z := h
    cases ho : throO G o with
    | none => rw [ho] at h; exact go h
    | some q =>
      obtain ⟨c, args⟩ := q
      rw [ho] at h
      simp only at h
      cases hp : plainTy c.t with
      | false => rw [hp] at h; exact (noS h).elim
      | true =>
        cases he : evL (evS σ.env) args with
        | none => rw [hp, he] at h; exact (noS h).elim
        | some ss =>
          rw [hp, he] at h
          obtain ⟨ss', h1, h2⟩ := openN_out (P := P) (show openN ss _ = some z from h)
          cases ha : argsD G (fnd σ.res) c.ps ss' with
          | none => rw [ha] at h1; exact (noS h1).elim
          | some a =>
            rw [ha] at h1
            simp only at h1
            unfold thro at h1
            cases hz : runOps G N all (regR G N all t KN KX r) [o] σ with
            | some z1 => rw [hz] at h1; exact go (hz.trans h1)
            | none =>
            rw [hz] at h1
            simp only at h1
            cases hF : c.F a with
            | none => rw [hF] at h1; exact (noS h1).elim
            | some e =>
              rw [hF] at h1
              simp only at h1
              obtain ⟨hg, g, xs, ts, hop, hpf, rfl⟩ := throO_out ho
              obtain ⟨S, ρ, γ, μ, ι, hS⟩ := hH
              obtain ⟨vs, hv, hok⟩ := hS.evL he
              obtain ⟨hc, hen⟩ := PfOk.at hG.pf hpf
              have hargs := argsD_ok hG (M' := M) (fun b hb => mem_mm.2 (.inr hb)) c.ps _ (hS.lend _) ha (h2 _ _ _ _ _ hok)
              have hcall := hc M w a _ e (fun b hb => hS.hp.mlt b (mem_mm.2 (.inr hb))) hargs hF
              intro a0 ha0
              simp only [wpList]
              rw [if_pos (show Region.wanted o (yielded (List.toArray all) a0.tmps) = true by simp [Region.wanted, hg])]
              left
              have e1 : (execOp a0.eval o).run P w = .ok (.enter g (List.toArray vs)) w := by
                obtain ⟨od, oop, oty, opos, oaf, og⟩ := o
                have hop : oop = .call ⟨.value (.func g), xs, ts⟩ := hop
                subst hop
                obtain ⟨xs⟩ := xs
                have := evs_map ha0 xs vs hv
                simp [execOp, resolve, Act.eval, Deferred.ofValue, invoke, hen, this]
              unfold Oper.wp
              rw [e1, Oper.upon_enter]
              refine hcall.mono ?_
              rintro en w2 ⟨v, rfl, hd, hx⟩
              refine ⟨ds, L, ha0, hP.z c.T t L L w2 v htp (fun _ _ => rfl) ?_⟩
              have hS2 := (hS.ext hx).put (d := t) (s := ofD c.t e) (v := v) (ofD_ok c.t (plainTy_ok (M' := mm S M) hp hd))
              exact hX _ _ _ _ h1 (Rel.acts (some t) (fun u hu => by cases hu; exact htW) _ _) ((EnvS.put t L v).mono fun u hu => by rw [List.mem_singleton.1 hu]; exact htW) ⟨S, ρ, γ, μ, ι, hS2⟩
/-- A piece of code does what was reckoned of it. -/
def Runs (r : Option Nat) (n : Nat) (P : Program) [Se P] (N : Nat) (pr : AS → Option Γ) (c : Code) (ds : List Deferred) (w0 : World) (Mu M : List Nat) (W : List Nat) (run : {Y : Type} → (AS → Option Y) → (Nat → AS → Option Y) → (Γ → Option Y) → AS → Option Y) : Prop :=
  ∀ (Y : Type) (KN : AS → Option Y) (KX : Nat → AS → Option Y) (KR : Γ → Option Y) (σ : AS) (L : Env) (w : World) (z : Y) (A B : Out) (X : Nat → Out) (Z : List PanicEntry → Out) (X1 : Nat → Out), run KN KX KR σ = some z → Holds w0 Mu M σ L w →
    (∀ σ' L' w', KN σ' = some z → Rel P W σ σ' → EnvS W L L' → Holds w0 Mu M σ' L' w' → A ds L' w') →
    (∀ i σ' L' w', KX i σ' = some z → Rel P W σ σ' → EnvS W L L' → Holds w0 Mu M σ' L' w' → X i ds L' w') →
    (∀ r σ' L' w', pr σ' = some r → KR r = some z → EnvS W L L' → Holds w0 Mu M σ' L' w' → B ds L' w') → PZ X X1 Z ds → CF r n P N c ds L w A B X1 Z
variable {r : Option Nat} {n : Nat} {N : Nat} {pr : AS → Option Γ} {ds : List Deferred} {w0 : World} {Mu M : List Nat}
theorem join_n [Sl (P := P)] {W : List Nat} {ks : List Key} {q : keyT Γ ks} {Y : Type} {KN : AS → Option Y} {KX : Nat → AS → Option Y} {KR : Γ → Option Y} {σ σ' : AS} {L L' : Env} {w' : World} {z : Y} {A : Out} (hks : ∀ t ∈ slotsK ks, t ∈ W) (hj : injK (keyN σ') ks = some q) (hz : elimK W KN KX KR σ ks q = some z) (hR : Rel P W σ.start σ') (hE : EnvS W L L') (hH : Holds w0 Mu M σ' L' w')
    (hA : ∀ σ' L' w', KN σ' = some z → Rel P W σ σ' → EnvS W L L' → Holds w0 Mu M σ' L' w' → A ds L' w') : A ds L' w' := by
  obtain ⟨k, hk, x, h1, h2⟩ := injK_out (W := W) (KN := KN) (KX := KX) (KR := KR) (σ := σ) hj
  rw [h2] at hz
  cases k with
  | norm sh =>
    obtain ⟨S, ρ, γ, μ, ι, h⟩ := hH
    exact hA _ L' w' hz (unpack_rel (fun t ht => hks t (slotsK_norm hk t ht)) fun _ h => h) hE (unstart_holds (unpack_ok h hR h1))
  | exit _ _ => cases h1
  | ret => cases h1
theorem join_x [Sl (P := P)] {W : List Nat} {ks : List Key} {q : keyT Γ ks} {Y : Type} {KN : AS → Option Y} {KX : Nat → AS → Option Y} {KR : Γ → Option Y} {σ σ' : AS} {L L' : Env} {w' : World} {z : Y} {X : Nat → Out} {i : Nat} (hks : ∀ t ∈ slotsK ks, t ∈ W) (hj : injK (keyX i σ') ks = some q) (hz : elimK W KN KX KR σ ks q = some z) (hR : Rel P W σ.start σ') (hE : EnvS W L L') (hH : Holds w0 Mu M σ' L' w')
    (hX : ∀ i σ' L' w', KX i σ' = some z → Rel P W σ σ' → EnvS W L L' → Holds w0 Mu M σ' L' w' → X i ds L' w') : X i ds L' w' := by
  obtain ⟨k, hk, x, h1, h2⟩ := injK_out (W := W) (KN := KN) (KX := KX) (KR := KR) (σ := σ) hj
  rw [h2] at hz
  cases k with
  | norm _ => cases h1
  | ret => cases h1
  | exit j sh =>
    have h1 : (match Nat.beq i j with
      | true => packS sh σ'
      | false => none) = some x := h1
    cases hb : Nat.beq i j with
    | false => rw [hb] at h1; cases h1
    | true =>
      rw [hb] at h1
      have := Nat.eq_of_beq_eq_true hb
      subst this
      obtain ⟨S, ρ, γ, μ, ι, h⟩ := hH
      exact hX i _ L' w' hz (unpack_rel (fun t ht => hks t (slotsK_exit hk t ht)) fun _ h => h) hE (unstart_holds (unpack_ok h hR h1))
theorem join_r {W : List Nat} {ks : List Key} {q : keyT Γ ks} {Y : Type} {KN : AS → Option Y} {KX : Nat → AS → Option Y} {KR : Γ → Option Y} {σ : AS} {z : Y} {r : Γ} (hj : injK (keyR r) ks = some q) (hz : elimK W KN KX KR σ ks q = some z) : KR r = some z := by
  obtain ⟨k, hk, x, h1, h2⟩ := injK_out (W := W) (KN := KN) (KX := KX) (KR := KR) (σ := σ) hj
  rw [h2] at hz
  cases k with
  | norm _ => cases h1
  | exit _ _ => cases h1
  | ret =>
    have h1 : r = x := Option.some.inj h1
    subst h1; exact hz
theorem wrap_ok [Sl (P := P)] {c : Code} {an : An} {run : An → {Y : Type} → (AS → Option Y) → (Nat → AS → Option Y) → (Γ → Option Y) → AS → Option Y} (hr : ∀ l, Runs r n P N pr c ds w0 Mu M (wrOf c ++ wrAn l) (run l)) : Runs r n P N pr c ds w0 Mu M (wrOf c ++ wrAn an) (wrap c an run) := by
  intro Y KN KX KR σ L w z A B X Z X1 h hH hA hX hB hP
  have key : ∀ l, an = l → run l KN KX KR σ = some z → CF r n P N c ds L w A B X1 Z := fun l he h => by
    subst he
    exact hr an _ _ _ _ _ _ _ _ _ _ _ _ _ h hH hA hX hB hP
  cases an with
  | x => exact key _ rfl h
  | nd a b => exact key _ rfl h
  | lp hd ks l => exact key _ rfl h
  | jn ks l =>
    obtain ⟨q, h1, h2⟩ := bindS h
    have hW : ∀ t ∈ wrOf c ++ wrAn l, t ∈ wrOf c ++ (slotsK ks ++ wrAn l) := fun t ht => (List.mem_append.1 ht).elim (List.mem_append_left _) fun h => List.mem_append_right _ (List.mem_append_right _ h)
    have hks : ∀ t ∈ slotsK ks, t ∈ wrOf c ++ (slotsK ks ++ wrAn l) := fun t ht => List.mem_append_right _ (List.mem_append_left _ ht)
    refine hr l _ _ _ _ _ _ _ _ _ _ _ _ _ h1 (start_holds hH) (fun σ' L' w' hj hR hE hH' => ?_) (fun i σ' L' w' hj hR hE hH' => ?_) (fun r σ' L' w' hp hj hE hH' => ?_) hP
    · exact join_n hks hj h2 (hR.mono hW) (hE.mono hW) hH' hA
    · exact join_x hks hj h2 (hR.mono hW) (hE.mono hW) hH' hX
    · exact hB r σ' L' w' hp (join_r hj h2) (hE.mono hW) hH'
theorem wrAn_l (an : An) : ∀ t ∈ wrAn an.l, t ∈ wrAn an := fun t ht => by
  cases an with
  | nd a b => exact List.mem_append_left _ ht
  | _ => cases ht
theorem wrAn_r (an : An) : ∀ t ∈ wrAn an.r, t ∈ wrAn an := fun t ht => by
  cases an with
  | nd a b => exact List.mem_append_right _ ht
  | _ => cases ht
theorem inlO_out {α β : Type} {o : Option α} {y : α ⊕ β} (h : inlO o = some y) : ∃ x, o = some x ∧ y = .inl x := by
  cases o with
  | none => cases h
  | some x => exact ⟨x, rfl, (Option.some.inj h).symm⟩
theorem inrO_out {α β : Type} {o : Option β} {y : α ⊕ β} (h : inrO o = some y) : ∃ x, o = some x ∧ y = .inr x := by
  cases o with
  | none => cases h
  | some x => exact ⟨x, rfl, (Option.some.inj h).symm⟩
theorem noDefs_eq : ∀ {l : List Oper}, noDefs l = true → l.all (fun o => noDefer o.op) = true
  | [], _ => rfl
  | o :: l, h => by
    have h : (noDefB o.op && noDefs l) = true := h
    simp only [Bool.and_eq_true] at h
    simp only [List.all_cons, Bool.and_eq_true]
    refine ⟨?_, noDefs_eq h.2⟩
    cases ho : o.op <;> first | rfl | (rw [ho] at h; cases h.1)
theorem exec_ok [Sl (P := P)] {G : Gx} (hG : GxOk P G) : ∀ (c : Code) (an : An), Runs r n P N pr c ds w0 Mu M (wrOf c ++ wrAn an) (exec G N pr c an)
  | .skip, an => fun _ _ _ _ _ _ _ _ _ _ _ _ _ h hH hA _ _ _ => cf_skip (hA _ _ _ h (Rel.refl _) (EnvS.refl _ _) hH)
  | .region i ops dr, an => by
    cases dr with
    | true =>
      refine wrap_ok (run := fun _ _ KN _ _ σ => match noDefs ops.toList with
        | true => runA G N ops.toList KN σ
        | false => none) fun l => ?_
      intro Y KN KX KR σ L w z A B X Z X1 h hH hA _ _ _
      obtain ⟨ops⟩ := ops
      cases hd : noDefs ops with
      | false => simp only [hd] at h; exact (noS h).elim
      | true =>
        simp only [hd] at h
        exact cf_any hG.mix (noDefs_eq hd) (drawn_ok hG h (fun t ht => List.mem_append_left _ ht) hH hA)
    | false =>
      refine wrap_ok (run := fun _ _ KN KX _ σ => match noDefs ops.toList with
        | true => match panO ops.toList with
          | some (l, T, x, t) => match lk G.bd T, Nat.blt t N && Nat.blt t pnc with
            | some _, true => runOps G N ops.toList (fun σ' => match evS σ'.env x with
              | some s => KX (panX T t) (apps (some t) [.put s] σ')
              | none => none) l σ
            | _, _ => none
          | none => match hasThro G ops.toList, headD ops.toList with
            | true, some t => match Nat.blt t N && Nat.blt t pnc with
              | true => regR G N ops.toList t KN KX ops.toList σ
              | false => none
            | _, _ => runOps G N ops.toList KN ops.toList σ
        | false => none) fun l => ?_
      intro Y KN KX KR σ L w z A B X Z X1 h hH hA hX _ hP
      obtain ⟨ops⟩ := ops
      cases hd : noDefs ops with
      | false => simp only [hd] at h; exact (noS h).elim
      | true =>
        simp only [hd] at h
        cases hp : panO ops with
        | none =>
          simp only [hp] at h
          have plain : runOps G N ops KN ops σ = some z → CF r n P N (.region i (List.toArray ops) false) ds L w A B X1 Z := fun h => cf_reg (noDefs_eq hd) (runOps_ok hG ops σ L w h (fun t ht => List.mem_append_left _ ht) hH hA)
          cases ht : hasThro G ops with
          | false => simp only [ht] at h; exact plain h
          | true =>
            cases hh : headD ops with
            | none => simp only [ht, hh] at h; exact plain h
            | some t =>
              simp only [ht, hh] at h
              cases hb : Nat.blt t N && Nat.blt t pnc with
              | false => simp only [hb] at h; exact (noS h).elim
              | true =>
                simp only [hb] at h
                obtain ⟨hb1, hb2⟩ := Bool.and_eq_true_iff.1 hb
                refine cf_reg (noDefs_eq hd) (regR_ok hG hb1 hb2 (List.mem_append_left _ ?_) hP ops σ L w h (fun t ht => List.mem_append_left _ ht) hH hA hX)
                show t ∈ wrOps ops
                cases ops with
                | nil => cases hh
                | cons o q =>
                  have hh : o.dst = some t := hh
                  simp only [wrOps, hh]; exact List.mem_cons_self ..
        | some q =>
          obtain ⟨l0, T, x, t⟩ := q
          simp only [hp] at h
          cases hT : lk G.bd T with
          | none => simp only [hT] at h; exact (noS h).elim
          | some pl =>
            cases ht2 : Nat.blt t N && Nat.blt t pnc with
            | false => simp only [hT, ht2] at h; exact (noS h).elim
            | true =>
              simp only [hT, ht2] at h
              obtain ⟨ht, htp⟩ := Bool.and_eq_true_iff.1 ht2
              obtain ⟨m, p, ho, hq⟩ := panO_out hp
              obtain ⟨h1, h2, h3, h4, h5⟩ := panL_out hq
              obtain ⟨fields, hu, _⟩ := BdOk.at hG.bd hT
              have hw0 : ∀ u, u ∈ wrOps l0 ∨ u = t → u ∈ wrOf (.region i (List.toArray ops) false) ++ wrAn l := fun u hu => List.mem_append_left _ (by
                show u ∈ wrOps ops
                rw [ho]; exact wrOps_pan h2 hu)
              refine cf_reg (noDefs_eq hd) ?_
              have key := runOps_ok (P := P) (ops := ops) (ds := ds) (B := B) (X := X1) (Z := Z) (W := wrOf (.region i (List.toArray ops) false) ++ wrAn l) hG l0 σ L w h (fun u hu => hw0 u (.inl hu)) hH (A := fun ds' L' w' => Reg P N (List.toArray ops) .seq [m, p] ds' L' w' A B X1 Z) fun σ' L' w' hK hR hE hH' => by
                cases hx : evS σ'.env x with
                | none => rw [hx] at hK; exact (noS hK).elim
                | some s =>
                  rw [hx] at hK
                  obtain ⟨S, ρ, γ, μ, ι, hS⟩ := hH'
                  obtain ⟨v, hv, hok⟩ := hS.ev hx
                  refine pan_ok hq hu ht hv (hP.z T t L' _ w' v htp (fun u hu => by rw [look_cons, if_neg (fun e => hu e.symm)]) ?_)
                  refine hX _ _ _ _ hK (hR.trans (Rel.acts (some t) (fun u hu => hw0 u (.inr (Option.some.inj hu).symm)) _ _)) (hE.trans ((EnvS.put t L' v).mono fun u hu => hw0 u (.inr (List.mem_singleton.1 hu)))) ⟨S, ρ, γ, μ, ι, hS.put hok⟩
              have hreg : Reg P N (List.toArray ops) .seq (l0 ++ [m, p]) ds L w A B X1 Z := fun a ha => wpList_app (fun a w h => by
                obtain ⟨ds', L', hk, hr⟩ := h
                exact hr a hk) l0 a w (key a ha)
              have hreg : Reg P N (List.toArray ops) .seq ops ds L w A B X1 Z := by rw [← ho] at hreg; exact hreg
              exact hreg
  | .seq a b, an => by
    refine wrap_ok fun l => ?_
    intro Y KN KX KR σ L w z A B X Z X1 h hH hA hX hB hP
    have ha : ∀ t ∈ wrOf a ++ wrAn l.l, t ∈ wrOf (.seq a b) ++ wrAn l := fun t ht => (List.mem_append.1 ht).elim (fun h => List.mem_append_left _ (List.mem_append_left _ h)) fun h => List.mem_append_right _ (wrAn_l l t h)
    have hb : ∀ t ∈ wrOf b ++ wrAn l.r, t ∈ wrOf (.seq a b) ++ wrAn l := fun t ht => (List.mem_append.1 ht).elim (fun h => List.mem_append_left _ (List.mem_append_right _ h)) fun h => List.mem_append_right _ (wrAn_r l t h)
    refine cf_seq (exec_ok hG a l.l _ _ _ _ _ _ _ _ _ _ _ _ _ h hH (fun σ1 L1 w1 h1 hR hE hH1 => ?_) (fun i σ1 L1 w1 h1 hR hE hH1 => hX i σ1 L1 w1 h1 (hR.mono ha) (hE.mono ha) hH1) (fun r σ1 L1 w1 h1 h2 hE hH1 => hB r σ1 L1 w1 h1 h2 (hE.mono ha) hH1) hP)
    exact exec_ok hG b l.r _ _ _ _ _ _ _ _ _ _ _ _ _ h1 hH1 (fun σ2 L2 w2 h2 hR2 hE2 hH2 => hA σ2 L2 w2 h2 ((hR.mono ha).trans (hR2.mono hb)) ((hE.mono ha).trans (hE2.mono hb)) hH2) (fun i σ2 L2 w2 h2 hR2 hE2 hH2 => hX i σ2 L2 w2 h2 ((hR.mono ha).trans (hR2.mono hb)) ((hE.mono ha).trans (hE2.mono hb)) hH2) (fun r σ2 L2 w2 h1 h2 hE2 hH2 => hB r σ2 L2 w2 h1 h2 ((hE.mono ha).trans (hE2.mono hb)) hH2) hP
  | .cond c a b, an => by
    refine wrap_ok fun l => ?_
    intro Y KN KX KR σ L w z A B X Z X1 h hH hA hX hB hP
    have ha : ∀ t ∈ wrOf a ++ wrAn l.l, t ∈ wrOf (.cond c a b) ++ wrAn l := fun t ht => (List.mem_append.1 ht).elim (fun h => List.mem_append_left _ (List.mem_append_left _ h)) fun h => List.mem_append_right _ (wrAn_l l t h)
    have hb : ∀ t ∈ wrOf b ++ wrAn l.r, t ∈ wrOf (.cond c a b) ++ wrAn l := fun t ht => (List.mem_append.1 ht).elim (fun h => List.mem_append_left _ (List.mem_append_right _ h)) fun h => List.mem_append_right _ (wrAn_r l t h)
    have hH0 := hH
    obtain ⟨S, ρ, γ, μ, ι, hS⟩ := hH0
    have h : (match evS σ.env c with
      | some (.bool t) => cond t (exec G N pr a l.l KN KX KR σ) (exec G N pr b l.r KN KX KR σ)
      | _ => none) = some z := h
    cases hc : evS σ.env c with
    | none => rw [hc] at h; exact (noS h).elim
    | some s =>
      rw [hc] at h
      cases s with
      | bool t =>
        refine cf_cond (hS.bool hc) (fun ht => ?_) fun ht => ?_
        · subst ht
          exact exec_ok hG a l.l _ _ _ _ _ _ _ _ _ _ _ _ _ h hH (fun σ' L' w' h1 hR hE hH1 => hA σ' L' w' h1 (hR.mono ha) (hE.mono ha) hH1) (fun i σ' L' w' h1 hR hE hH1 => hX i σ' L' w' h1 (hR.mono ha) (hE.mono ha) hH1) (fun r σ1 L1 w1 h1 h2 hE hH1 => hB r σ1 L1 w1 h1 h2 (hE.mono ha) hH1) hP
        · subst ht
          exact exec_ok hG b l.r _ _ _ _ _ _ _ _ _ _ _ _ _ h hH (fun σ' L' w' h1 hR hE hH1 => hA σ' L' w' h1 (hR.mono hb) (hE.mono hb) hH1) (fun i σ' L' w' h1 hR hE hH1 => hX i σ' L' w' h1 (hR.mono hb) (hE.mono hb) hH1) (fun r σ1 L1 w1 h1 h2 hE hH1 => hB r σ1 L1 w1 h1 h2 (hE.mono hb) hH1) hP
      | int _ _ | ary _ _ _ | str _ _ | agg _ | fv _ _ _ | fn _ _ | dead | tup _ | rp _ _ | ptr _ _ | ep _ _ _ _ _ | dat _ _ | own _ | nilS | raw _ | it _ _ | np _ _ | ap _ _ _ _ | undef => exact (noS h).elim
  | .block i a, an => by
    refine wrap_ok fun l => ?_
    intro Y KN KX KR σ L w z A B X Z X1 h hH hA hX hB hP
    cases hi : Nat.blt i pnc with
    | false => simp only [hi] at h; exact (noS h).elim
    | true =>
    simp only [hi] at h
    refine cf_block (exec_ok hG a l _ _ _ _ _ _ _ _ _ _ _ _ _ h hH hA (fun j σ' L' w' h1 hR hE hH1 => ?_) hB (hP.block hi))
    have hq : (bif Nat.beq j i then KN σ' else KX j σ') = some z := h1
    cases hb : Nat.beq j i with
    | true =>
      rw [hb, cond_true] at hq
      have := Nat.eq_of_beq_eq_true hb
      subst this
      exact exB_same (hA σ' L' w' hq hR hE hH1)
    | false =>
      rw [hb, cond_false] at hq
      exact exB_other hb (hX j σ' L' w' hq hR hE hH1)
  | .loop c, an => by
    intro Y KN KX KR σ L w z A B X Z X1 h hH hA hX hB hP
    cases an with
    | x => exact (noS h).elim
    | nd _ _ => exact (noS h).elim
    | jn _ _ => exact (noS h).elim
    | lp hd ks l =>
      let W := wrOf c ++ (slotsC hd.cs ++ slotsK ks ++ wrAn l)
      let body : denC hd.cs → Option (denC hd.cs ⊕ keyT Γ ks) := fun s => exec G N pr c l (fun σ' => inlO (packS hd σ')) (fun j σ' => inrO (injK (keyX j σ') ks)) (fun r => inrO (injK (keyR r) ks)) (unpack W hd σ.start s)
      have h : (match packS hd σ.start with
        | some s0 => Option.bind (loopM body s0) (elimK W (fun _ => none) KX KR σ ks)
        | none => none) = some z := h
      have hin : ∀ t ∈ wrOf c ++ wrAn l, t ∈ W := fun t ht => (List.mem_append.1 ht).elim (List.mem_append_left _) fun h => List.mem_append_right _ (List.mem_append_right _ h)
      have hhd : ∀ t ∈ slotsC hd.cs, t ∈ W := fun t ht => List.mem_append_right _ (List.mem_append_left _ (List.mem_append_left _ ht))
      have hks : ∀ t ∈ slotsK ks, t ∈ W := fun t ht => List.mem_append_right _ (List.mem_append_left _ (List.mem_append_right _ ht))
      cases h0 : packS hd σ.start with
      | none => rw [h0] at h; exact (noS h).elim
      | some s0 =>
        rw [h0] at h
        obtain ⟨q, h1, h2⟩ := bindS h
        obtain ⟨n, hn⟩ := loopM_some.1 h1
        have hst : Holds w0 Mu M (unpack W hd σ.start s0) L w := by
          obtain ⟨S, ρ, γ, μ, ι, hS⟩ := start_holds hH
          exact unpack_ok hS (Rel.refl _) h0
        refine cf_loop (ι := Env × denC hd.cs × Nat) (fun i => i.1) (fun i w => EnvS W L i.1 ∧ Holds w0 Mu M (unpack W hd σ.start i.2.1) i.1 w ∧ iterM body i.2.2 i.2.1 = some q) (fun i => i.2.2) (L, s0, n) ⟨EnvS.refl _ _, hst, hn⟩ (Sub.refl L) ?_
        rintro ⟨L1, s, m⟩ w1 ⟨hE1, hH1, hm⟩
        have hE1 : EnvS W L L1 := hE1
        cases m with
        | zero => cases hm
        | succ m =>
          have hm : iterM body (m + 1) s = some q := hm
          simp only [iterM] at hm
          cases hb : body s with
          | none => rw [hb] at hm; exact (noS hm).elim
          | some y =>
            rw [hb] at hm
            have hrel : Rel P W σ.start (unpack W hd σ.start s) := unpack_rel hhd fun _ h => h
            refine exec_ok hG c l _ _ _ _ _ _ _ _ _ _ _ _ _ hb hH1 (fun σ' L' w' hk hR hE hH' => ?_) (fun i σ' L' w' hk hR hE hH' => ?_) (fun r σ' L' w' hp hk hE hH' => ?_) hP
            · obtain ⟨s', h3, rfl⟩ := inlO_out hk
              refine ⟨rfl, (L', s', m), ⟨hE1.trans (hE.mono hin), ?_, hm⟩, Sub.refl L', Nat.lt_succ_self m⟩
              obtain ⟨S, ρ, γ, μ, ι, hS⟩ := hH'
              exact unpack_ok hS (hrel.trans (hR.mono hin)) h3
            · obtain ⟨q', h3, rfl⟩ := inrO_out hk
              have hm : q' = q := Option.some.inj hm
              subst hm
              exact join_x hks h3 h2 (hrel.trans (hR.mono hin)) (hE1.trans (hE.mono hin)) hH' hX
            · obtain ⟨q', h3, rfl⟩ := inrO_out hk
              have hm : q' = q := Option.some.inj hm
              subst hm
              exact hB r σ' L' w' hp (join_r h3 h2) (hE1.trans (hE.mono hin)) hH'
  | .exit i, an => by
    intro Y KN KX KR σ L w z A B X Z X1 h hH hA hX hB hP
    have h : (match Nat.blt i pnc with
      | true => KX i σ
      | false => none) = some z := h
    cases hi : Nat.blt i pnc with
    | false => rw [hi] at h; exact (noS h).elim
    | true =>
      rw [hi] at h
      exact cf_exit (hP.x i _ _ hi (hX i _ _ _ h (Rel.refl _) (EnvS.refl _ _) hH))
  | .ret, an => by
    intro Y KN KX KR σ L w z A B X Z X1 h hH hA hX hB hP
    have h : (match pr σ with
      | some r => KR r
      | none => none) = some z := h
    cases hp : pr σ with
    | none => rw [hp] at h; exact (noS h).elim
    | some r => rw [hp] at h; exact cf_ret (hB r σ L w hp h (EnvS.refl _ _) hH)
  | .rangeFunc _ _ _ _, an => by intro Y KN KX KR σ L w z A B X Z X1 h; cases h
  | .scope a, an => by
    intro Y KN KX KR σ L w z A B X Z X1 h hH hA hX hB hP
    exact cf_scope (exec_ok hG a an _ _ _ _ _ _ _ _ _ _ _ _ _ h hH hA hX hB hP)
  | .label _, an => fun _ _ _ _ _ _ _ _ _ _ _ _ _ h hH hA _ _ _ => cf_label (hA _ _ _ h (Rel.refl _) (EnvS.refl _ _) hH)
  | .goto _, an => by intro Y KN KX KR σ L w z A B X Z X1 h; cases h
  | .refuse _, an => by intro Y KN KX KR σ L w z A B X Z X1 h; cases h
end
end Go.Rx
namespace Go.Rx
open Go Go.Sx Go.RowKit
variable [Trk] [Sg] [Sf] {P : Program} [Se P]
/-- What holds no map lies in cells. -/
class Sn (P : outParam Program) [Se P] : Prop where
  tn : ∀ n, Sf.nm n = true → TnE (Se.E (P := P) n)
instance (k : IntKind) (n : Nat) : TnE (arrE k n) := ⟨fun _ h => h⟩
theorem enc_tn [Sn P] : ∀ (t : Ty), noMp t = true → TnE (enc (P := P) t)
  | .int k, _ => inferInstanceAs (TnE (intE k))
  | .bool, _ => inferInstanceAs (TnE boolE)
  | .sl t, h => by
    have := enc_tn t h
    exact inferInstanceAs (TnE (sliceE (enc t)))
  | .st n, h => Sn.tn n h
  | .arr k n, _ => ⟨fun _ h => h⟩
  | .mp _ _ _, h => by cases h
section
variable {ρ : Nat → Value} {R : Nat → Option AR} {M : List Nat} {w w' : World}
theorem OkD.tn [Sn P] {t : Ty} {x : den t} {v : Value} (ht : noMp t = true) (h : Tn w w') (hd : OkD M w t x v) : OkD M w' t x v := by
  have := enc_tn (P := P) t ht
  exact Vl.tn h hd
mutual
theorem Ok.tn [Sn P] (ht : Tn w w') : ∀ (s : SV) {v : Value}, tnB s = true → Ok ρ R M w s v → Ok ρ R M w' s v
  | .int _ _, _, _, h => h
  | .bool _, _, _, h => h
  | .dat t _, _, hb, h => ⟨h.1, OkD.tn hb ht h.2⟩
  | .str n _, _, hb, h => OkD.tn (t := .st n) hb ht h
  | .ary k n _, _, _, h => OkD.tn (t := .arr k n) rfl ht h
  | .agg l, _, hb, ⟨vs, h1, h2⟩ => ⟨vs, h1, OkL.tn ht l hb h2⟩
  | .own _, _, _, h => h
  | .ptr _ _, _, _, h => h
  | .ep _ _ _ _ _, _, hb, _ => by cases hb
  | .rp s _, _, hb, ⟨b, o0, u, vs, h1, h2, h3, h4⟩ => ⟨b, o0, u, vs, h1, ⟨h2.out, Nat.lt_of_lt_of_le h2.lt ht.1, ht.cells h2.cells⟩, Ok.tn ht s hb h3, h4⟩
  | .ap s _ _ _, _, hb, ⟨b, o, h1, h2⟩ => ⟨b, o, Ok.tn ht s hb h1, h2⟩
  | .fv _ _ _, _, hb, _ => by cases hb
  | .it _ _, _, hb, _ => by cases hb
  | .np _ _, _, hb, _ => by cases hb
  | .fn _ l, _, hb, ⟨vs, h1, h2⟩ => ⟨vs, h1, OkV.tn ht l hb h2⟩
  | .nilS, _, _, h => h
  | .raw _, _, _, h => h
  | .undef, _, _, h => h
  | .dead, _, _, h => h
  | .tup l, _, hb, ⟨vs, h1, h2⟩ => ⟨vs, h1, OkV.tn ht l hb h2⟩
theorem OkL.tn [Sn P] (ht : Tn w w') : ∀ (l : List SV) {vs : List Value}, tnL l = true → OkL ρ R M w l vs → OkL ρ R M w' l vs
  | [], _, _, h => h
  | s :: l, _, hb, ⟨u, c, r, h1, h2, h3, h4⟩ => by
    have hb : (tnB s && tnL l) = true := hb
    simp only [Bool.and_eq_true] at hb
    exact ⟨u, c, r, h1, Ok.tn ht s hb.1 h2, h3, OkL.tn ht l hb.2 h4⟩
theorem OkV.tn [Sn P] (ht : Tn w w') : ∀ (l : List SV) {vs : List Value}, tnL l = true → OkV ρ R M w l vs → OkV ρ R M w' l vs
  | [], _, _, h => h
  | s :: l, _, hb, ⟨u, r, h1, h2, h3⟩ => by
    have hb : (tnB s && tnL l) = true := hb
    simp only [Bool.and_eq_true] at hb
    exact ⟨u, r, h1, Ok.tn ht s hb.1 h2, OkV.tn ht l hb.2 h3⟩
end
end
section
variable [Anch] {w0 w w' : World} {Mu M : List Nat} {σ : AS} {L : Env} {S : List Res} {ρ : Nat → Value} {γ : Nat → List Value} {μ : Nat → List Nat} {ι : Nat → Nat}
def nub : List Nat → List Nat
  | [] => []
  | x :: r => bif has r x then nub r else x :: nub r
theorem nub_mem : ∀ {l : List Nat} {i : Nat}, i ∈ nub l ↔ i ∈ l
  | [], _ => Iff.rfl
  | x :: r, i => by
    simp only [nub]
    cases hb : has r x with
    | true =>
      rw [cond_true, nub_mem (l := r), List.mem_cons]
      exact ⟨.inr, fun h => h.elim (fun e => by subst e; exact has_iff.1 hb) id⟩
    | false => rw [cond_false, List.mem_cons, List.mem_cons, nub_mem (l := r)]
theorem nub_nodup : ∀ {l : List Nat}, (nub l).Nodup
  | [] => List.nodup_nil
  | x :: r => by
    simp only [nub]
    cases hb : has r x with
    | true => rw [cond_true]; exact nub_nodup
    | false =>
      rw [cond_false]
      exact List.nodup_cons.2 ⟨(fun h => by rw [has_iff.2 (nub_mem.1 h)] at hb; cases hb), nub_nodup⟩
theorem idsV_iff : ∀ {l : List (Nat × AR)} {i : Nat}, i ∈ idsV l ↔ ∃ a, fnd l i = some a
  | [], i => by
    constructor
    · intro h; cases h
    · rintro ⟨a, h⟩; cases h
  | (k, v) :: r, i => by
    simp only [idsV, List.mem_cons, fnd]
    cases hb : Nat.beq k i with
    | true =>
      have := Nat.eq_of_beq_eq_true hb
      subst this
      simp
    | false =>
      have hne : i ≠ k := fun e => by subst e; simp at hb
      simp [hne, idsV_iff (l := r)]
/-- All that is owned is told. -/
def Tight (P : Program) [Se P] (σ : AS) (S : List Res) (ρ : Nat → Value) (γ : Nat → List Value) (μ : Nat → List Nat) : Prop := ∀ r ∈ S, ∃ i a, fnd σ.res i = some a ∧ r = resOf (P := P) (ρ i) (γ i) (μ i) a
theorem HS.tight (h : HS w0 Mu M σ L w S ρ γ μ ι) : ∃ S' ι', HS w0 Mu M σ L w S' ρ γ μ ι' ∧ Tight P σ S' ρ γ μ ∧ ∀ b ∈ mm S' M, b ∈ mm S M := by
  obtain ⟨l, hl⟩ : ∃ l, l = nub (idsV σ.res) := ⟨_, rfl⟩
  have hm : ∀ i, i ∈ l ↔ ∃ a, fnd σ.res i = some a := fun i => by rw [hl, nub_mem, idsV_iff]
  have ha : ∀ j ∈ l, ∃ r, S[ι j]? = some r := fun j hj => by
    obtain ⟨a, h1⟩ := (hm j).1 hj
    exact ⟨_, h.res j a h1⟩
  have hnd : nodupN (l.map ι) = true := by
    refine nodupN_of ?_
    have key : ∀ l : List Nat, l.Nodup → (∀ i ∈ l, ∃ a, fnd σ.res i = some a) → (l.map ι).Nodup := by
      intro l
      induction l with
      | nil => intro _ _; exact List.nodup_nil
      | cons i l ih =>
        intro hn hd
        obtain ⟨h1, h2⟩ := List.nodup_cons.1 hn
        refine List.nodup_cons.2 ⟨fun hm => ?_, ih h2 fun j hj => hd j (List.mem_cons_of_mem _ hj)⟩
        obtain ⟨j, hj, he⟩ := List.mem_map.1 hm
        obtain ⟨a, ha⟩ := hd i (List.mem_cons_self ..)
        obtain ⟨b, hb⟩ := hd j (List.mem_cons_of_mem _ hj)
        exact h1 (h.inj j i b a hb ha he ▸ hj)
    exact key _ (by rw [hl]; exact nub_nodup) fun i hi => (hm i).1 hi
  have hsub : ∀ b ∈ mm (sel S (l.map ι)) M, b ∈ mm S M := fun b hb => mm_sel hb
  have hA : Adv (mm S M) (mm (sel S (l.map ι)) M) w w := Adv.drop hsub
  refine ⟨sel S (l.map ι), pos l, ⟨h.hp.sel _ hnd, fun i a hi => ?_, fun i j a b hi hj e => pos_inj ((hm i).2 ⟨a, hi⟩) ((hm j).2 ⟨b, hj⟩) e, fun i a hi => (h.row i a hi).adv hA, fun t s ht => ?_, h.anch.adv hA⟩, fun r hr => ?_, hsub⟩
  · rw [sel_pos ha ((hm i).2 ⟨a, hi⟩)]; exact h.res i a hi
  · obtain ⟨v, h1, h2⟩ := h.env t s ht
    exact ⟨v, h1, Ok.adv hA s h2⟩
  · obtain ⟨k, hk, h1⟩ := mem_sel hr
    obtain ⟨i, hi, rfl⟩ := List.mem_map.1 hk
    obtain ⟨a, h2⟩ := (hm i).1 hi
    have h3 := h.res i a h2
    rw [h1] at h3
    exact ⟨i, a, h2, Option.some.inj h3⟩
end
section
variable {w0 w W W' : World} {M : List Nat} {τ : AS} {L : Env} {S S0 : List Res} {ρ : Nat → Value} {γ : Nat → List Value} {μ : Nat → List Nat} {ι : Nat → Nat}
theorem okRs_out {E : List (Nat × SV)} : ∀ {l : List (Nat × AR)} {i : Nat} {a : AR}, okRs E l = true → fnd l i = some a → (∃ e c, a = .row e c ∧ tnL c = true) ∨ (∃ e t x, a = .own false (.sl e t) x ∧ noMp t = true) ∨ ∃ m k v x, a = .own false (.mp m k v) x ∧ noMp v = true ∧ hasOwn i E E = true
  | [], i, a, _, h => by cases h
  | (j, b) :: r, i, a, h, hf => by
    have hr : okRs E r = true := by
      cases b with
      | row e c =>
        have h : (tnL c && okRs E r) = true := h
        simp only [Bool.and_eq_true] at h
        exact h.2
      | own p c x =>
        cases c with
        | sl e t =>
          have h : ((!p) && noMp t && okRs E r) = true := h
          simp only [Bool.and_eq_true] at h
          exact h.2
        | mp m k v =>
          have h : ((!p) && noMp v && hasOwn j E E && okRs E r) = true := h
          simp only [Bool.and_eq_true] at h
          exact h.2
    simp only [fnd] at hf
    cases hb : Nat.beq j i with
    | false => rw [hb, cond_false] at hf; exact okRs_out hr hf
    | true =>
      rw [hb, cond_true] at hf
      cases hf
      have := Nat.eq_of_beq_eq_true hb
      subst this
      cases b with
      | row e c =>
        have h : (tnL c && okRs E r) = true := h
        simp only [Bool.and_eq_true] at h
        exact .inl ⟨e, c, rfl, h.1⟩
      | own p c x =>
        cases c with
        | sl e t =>
          have h : ((!p) && noMp t && okRs E r) = true := h
          simp only [Bool.and_eq_true, Bool.not_eq_true'] at h
          obtain ⟨⟨rfl, h2⟩, _⟩ := h
          exact .inr (.inl ⟨e, t, x, rfl, h2⟩)
        | mp m k v =>
          have h : ((!p) && noMp v && hasOwn j E E && okRs E r) = true := h
          simp only [Bool.and_eq_true, Bool.not_eq_true'] at h
          obtain ⟨⟨⟨rfl, h2⟩, h3⟩, _⟩ := h
          exact .inr (.inr ⟨m, k, v, x, rfl, h2, h3⟩)
theorem okEs_out : ∀ {l : List (Nat × SV)} {t : Nat} {s : SV}, okEs l = true → fnd l t = some s → tnB s = true ∨ owns s = []
  | [], _, _, _, h => by cases h
  | (u, s') :: r, t, s, h, hf => by
    have h : ((tnB s' || (match owns s' with
      | [] => true
      | _ => false)) && okEs r) = true := h
    simp only [Bool.and_eq_true, Bool.or_eq_true] at h
    simp only [fnd] at hf
    cases hb : Nat.beq u t with
    | false => rw [hb, cond_false] at hf; exact okEs_out h.2 hf
    | true =>
      rw [hb, cond_true] at hf
      cases hf
      refine h.1.imp id fun h => ?_
      split at h
      · assumption
      · cases h
/-- What a slot that stays holds. -/
theorem hasOwn_out {i : Nat} {E : List (Nat × SV)} : ∀ {l : List (Nat × SV)}, hasOwn i E l = true → ∃ t, fnd E t = some (.own i)
  | [], h => by cases h
  | (t, _) :: r, h => by
    have h : (isOwn i (fnd E t) || hasOwn i E r) = true := h
    simp only [Bool.or_eq_true] at h
    rcases h with h | h
    · unfold isOwn at h
      split at h
      · rename_i j hj
        exact ⟨t, by rw [hj, Nat.eq_of_beq_eq_true h]⟩
      · cases h
    · exact hasOwn_out h
theorem okIn_out {R : Nat → Option AR} {i t : Nat} : ∀ {l : List (Nat × SV)}, okIn R l = true → fnd l t = some (.own i) → ∃ a, R i = some a
  | [], _, h => by cases h
  | (u, s) :: r, h, hf => by
    simp only [fnd] at hf
    have hr : okIn R r = true := by
      cases s with
      | own j =>
        have h : ((match R j with
          | some _ => true
          | none => false) && okIn R r) = true := h
        simp only [Bool.and_eq_true] at h
        exact h.2
      | _ => exact h
    cases hb : Nat.beq u t with
    | false => rw [hb, cond_false] at hf; exact okIn_out hr hf
    | true =>
      rw [hb, cond_true] at hf
      cases hf
      have h : ((match R i with
        | some _ => true
        | none => false) && okIn R r) = true := h
      simp only [Bool.and_eq_true] at h
      cases hR : R i with
      | none => rw [hR] at h; cases h.1
      | some a => exact ⟨a, rfl⟩
/-- What slots hold when a loop starts. -/
structure Start (P : Program) [Se P] (E : List (Nat × SV)) (L : Env) (M0 : List Nat) (w : World) : Prop where
  old : ∀ t i v, fnd E t = some (.own i) → Sx.look L t = some v → ∀ b ∈ obx v, b < w.heap.size
  env : ∀ t s, fnd E t = some s → owns s = [] → ∃ (ρ0 : Nat → Value) (R0 : Nat → Option AR) (v : Value), Sx.look L t = some v ∧ Ok (P := P) ρ0 R0 M0 w s v
/-- What is so at the turn of rounds. -/
structure Turn (P : Program) [Se P] (w0 : World) (M M0 : List Nat) (w : World) (τ : AS) (L : Env) (W : World) (S : List Res) (ρ : Nat → Value) (γ : Nat → List Value) (μ : Nat → List Nat) (ι : Nat → Nat) : Prop where
  hs : HS (P := P) w0 [] M τ L W S ρ γ μ ι
  tight : Tight P τ S ρ γ μ
  ok : okU τ = true
  adv : Adv M0 (mm S M) w W
theorem map_tn {B m b : Nat} {k v : Ty} {f : FMap (den k) (den v)} [TnE (enc (P := P) v)] (hb : b < B) : TnR B (mapRes (P := P) [] m k v b f) := by
  intro M w w' ht ho hr
  cases hK : Se.ky (P := P) m k with
  | none =>
    unfold mapRes at hr
    rw [hK] at hr
    exact hr.elim
  | some K =>
    rw [mapRes_at hK] at hr ⊢
    exact (TnL.mem (tnMap (K := K) (E := enc (P := P) v) (ag := v.agg) (f := f) hb tn0) _ (List.mem_cons_self ..)) M w w' ht ho hr
theorem Turn.tnl [Sn P] {M0 : List Nat} (hS : Start P τ.env L M0 w) (h : Turn P w0 M M0 w τ L W S ρ γ μ ι) : ∀ r ∈ S, TnR w.heap.size r := fun r hr => by
  obtain ⟨i, a, h1, rfl⟩ := h.tight r hr
  have hok := h.ok
  unfold okU at hok
  simp only [Bool.and_eq_true] at hok
  have hrow := h.hs.row i a h1
  rcases okRs_out hok.1 h1 with ⟨e, c, rfl, _⟩ | ⟨e, t, x, rfl, h2⟩ | ⟨m, k, v, x, rfl, h2, h3⟩
  · exact (TnL.mem (tnRow (e := e) (b := blk (ρ i)) (cs := γ i) tn0) _ (List.mem_cons_self ..))
  · have := enc_tn (P := P) t h2
    exact (TnL.mem (tnOwn (mu := []) (E := enc t) (e := e) (v := ρ i) (xs := x) tn0) _ (List.mem_cons_self ..))
  · have := enc_tn (P := P) v h2
    obtain ⟨b, hb⟩ := hrow
    obtain ⟨t, ht⟩ := hasOwn_out h3
    obtain ⟨u, h4, h5, _⟩ := h.hs.env t _ ht
    have hlt : b < w.heap.size := hS.old t i u ht h4 b (by rw [h5, hb]; exact List.mem_singleton.2 rfl)
    show TnR w.heap.size (mapRes (P := P) [] m k v (blk (ρ i)) x)
    rw [hb]
    exact map_tn hlt
theorem TnL.of {B : Nat} : ∀ {σ : List Res}, (∀ r ∈ σ, TnR B r) → TnL B σ
  | [], _ => trivial
  | r :: σ, h => ⟨h r (List.mem_cons_self ..), TnL.of fun r hr => h r (List.mem_cons_of_mem _ hr)⟩
/-- The loop's own marks change. -/
theorem Turn.turn [Sn P] (htk : ¬ Trk.t) {M0 : List Nat} (hS : Start P τ.env L M0 w) (h0 : w0.heap.size ≤ w.heap.size) (h : Turn P w0 M M0 w τ L W S ρ γ μ ι) {row : Option Nat} (hg : W.grownBy W' row) (hr : ∀ r, row = some r → w.heap.size ≤ r ∧ ∃ o : Obj, W.heap[r]? = some o ∧ o.isCells = false) : Turn P w0 M M0 w τ L W' S ρ γ μ ι := by
  obtain ⟨htn, _⟩ := Tn.of_grown hg hr
  have hA := Adv.turn htk h.adv hg hr
  have hok := h.ok
  unfold okU at hok
  simp only [Bool.and_eq_true] at hok
  refine ⟨⟨Hp.turn htk h.adv.kp.size h0 (TnL.of (h.tnl hS)) h.hs.hp hg hr, h.hs.res, h.hs.inj, fun i a hi => ?_, fun t s ht => ?_, trivial⟩, h.tight, h.ok, hA⟩
  · have h1 := h.hs.row i a hi
    rcases okRs_out hok.1 hi with ⟨e, c, rfl, hc⟩ | ⟨e, t, x, rfl, h2⟩ | ⟨m, k, v, x, rfl, h2, h3⟩
    · exact ⟨h1.1, OkL.tn htn c hc h1.2⟩
    · exact h1
    · exact h1
  · obtain ⟨v, h1, h2⟩ := h.hs.env t s ht
    rcases okEs_out hok.2 ht with hb | ho
    · exact ⟨v, h1, Ok.tn htn s hb h2⟩
    · obtain ⟨ρ0, R0, v', h3, h4⟩ := hS.env t s ht ho
      rw [h1] at h3; cases h3
      exact ⟨v, h1, Ok.any s ho (Ok.adv hA s h4)⟩
/-- What a round leaves alone. -/
theorem Turn.keeps [Sn P] {M0 : List Nat} (hS : Start P τ.env L M0 w) (hw : w0.heap.size ≤ w.heap.size) (h : Turn P w0 M M0 w τ L W S ρ γ μ ι) {M2 : List Nat} (hA : Adv (mm S M) M2 W W') (hA2 : Adv M0 M2 w W') : KeepsFrom w.heap.size W W' ∧ KI M0 w.heap.size W W' := by
  refine ⟨⟨hA.kp.size, fun k o hk ho hc => ?_⟩, hA.kp.os, hA.kp.tape, hA.kp.output, hA.kp.size, fun b hb hn => ?_⟩
  · refine (hA.kp.block k (heap_lt ho) fun hm => ?_).trans ho
    rcases mem_mm.1 hm with ⟨r, hr, hb⟩ | hm
    · rcases (h.tnl hS r hr _ W W ⟨Nat.le_refl _, fun _ _ h _ => h⟩ (fun _ _ => rfl) (h.hs.hp.all r hr)).2 k hb with h3 | ⟨o', h3, h4⟩
      · omega
      · rw [ho] at h3; cases h3
        rw [hc] at h4; cases h4
    · have := h.hs.hp.base k hm
      omega
  · exact (hA2.kp.block b hb hn).trans (h.adv.kp.block b hb hn).symm
end
end Go.Rx
namespace Go.Rx
open Go Go.Sx Go.RowKit
variable [Trk] [Sg] [Sf] {P : Program} [Se P]
/-! Items as values. -/
section
variable {ρ : Nat → Value} {R : Nat → Option AR} {M : List Nat} {w : World}
theorem cell1_ok : ∀ (t : Ty) {x : den t}, ok1 t x → (enc (P := P) t).R M w (cell1 t x) x
  | .int k, x, h => ⟨rfl, h⟩
  | .bool, x, _ => rfl
  | .arr k n, x, h => ⟨h.1, h.2.1, rfl, h.2.2⟩
  | .sl _, _, h => h.elim
  | .st _, _, h => h.elim
  | .mp _ _ _, _, h => h.elim
theorem cellsT_ok : ∀ (l : List Ty) {x : tupT l}, okT l x → (tupE (P := P) l).R M w (cellsT l x) x
  | [], _, h => h.elim
  | [t], x, h => cell1_ok t h
  | t :: u :: l, x, h => (prodE_R (E := enc (P := P) t) (F := tupE (P := P) (u :: l))).2 ⟨_, _, rfl, cell1_ok t h.1, cellsT_ok (u :: l) h.2⟩
theorem valD_ok [Sl (P := P)] : ∀ (t : Ty) {x : den t}, okI t x → OkD (P := P) M w t x (valD t x)
  | .int k, x, h => ⟨_, cell1_ok (P := P) (.int k) h, .inr ⟨rfl, rfl⟩⟩
  | .bool, x, h => ⟨_, cell1_ok (P := P) .bool h, .inr ⟨rfl, rfl⟩⟩
  | .arr k n, x, h => ⟨_, cell1_ok (P := P) (.arr k n) h, .inl ⟨rfl, rfl⟩⟩
  | .st n, x, h => ⟨_, (Sl.is n M w _ x).2 (cellsT_ok (Sf.ft n) h), .inl ⟨rfl, rfl⟩⟩
  | .sl _, _, h => h.elim
  | .mp _ _ _, _, h => h.elim
end
/-! Assignments. -/
def asgVO : List Oper → Env → Option Env
  | [], L => some L
  | o :: r, L => match o.guard, o.dst, o.op with
    | none, some d, .assign x => match Sx.ev L x with
      | some v => asgVO r ((d, v) :: L)
      | none => none
    | _, _, _ => none
def asgV : Code → Env → Option Env
  | .seq a b, L => match asgV a L with
    | some L' => asgV b L'
    | none => none
  | .region _ ops false, L => asgVO ops.toList L
  | _, _ => none
section
variable [Anch] {w0 w : World} {Mu M : List Nat} {σ : AS} {S : List Res} {ρ : Nat → Value} {γ : Nat → List Value} {μ : Nat → List Nat} {ι : Nat → Nat}
theorem asgO_ok : ∀ (ops : List Oper) {E E' : List (Nat × SV)} {L : Env}, asgO ops E = some E' → HS w0 Mu M { σ with env := E } L w S ρ γ μ ι → ∃ L', asgVO ops L = some L' ∧ HS w0 Mu M { σ with env := E' } L' w S ρ γ μ ι ∧ EnvS (wrOps ops) L L' ∧ ∀ t, t ∉ wrOps ops → fnd E' t = fnd E t
  | [], E, E', L, h, hS => by
    have h : some E = some E' := h
    cases h
    exact ⟨L, rfl, hS, EnvS.refl _ _, fun _ _ => rfl⟩
  | ⟨d, op, ty, pos, af, gd⟩ :: r, E, E', L, h, hS => by
    have hq : (match (generalizing := false) gd, d, op with
      | none, some d, .assign x => (match evS E x with
        | some s => asgO r ((d, s) :: E)
        | none => none)
      | _, _, _ => none) = some E' := h
    clear h
    split at hq
    · rename_i d x
      cases hx : evS E x with
      | none => rw [hx] at hq; exact (noS hq).elim
      | some s =>
        rw [hx] at hq
        obtain ⟨v, h1, h2⟩ := hS.ev (x := x) hx
        obtain ⟨L', h3, h4, h5, h6⟩ := asgO_ok r hq (hS.put (d := d) h2)
        refine ⟨L', ?_, h4, fun t ht => ?_, fun t ht => ?_⟩
        · show (match Sx.ev L x with
            | some v => asgVO r ((d, v) :: L)
            | none => none) = some L'
          rw [h1]; exact h3
        · have ht : t ∉ d :: wrOps r := ht
          exact (h5 t fun hm => ht (List.mem_cons_of_mem _ hm)).trans (EnvS.put d L v t fun hm => ht (by rw [List.mem_singleton.1 hm]; exact List.mem_cons_self ..))
        · have ht : t ∉ d :: wrOps r := ht
          rw [h6 t fun hm => ht (List.mem_cons_of_mem _ hm)]
          show (bif Nat.beq d t then some s else fnd E t) = fnd E t
          have : Nat.beq d t = false := by
            cases hb : Nat.beq d t with
            | false => rfl
            | true => exact absurd (Nat.eq_of_beq_eq_true hb).symm (fun e => ht (by rw [e]; exact List.mem_cons_self ..))
          rw [this, cond_false]
    · cases hq
theorem asgS_ok : ∀ (c : Code) {E E' : List (Nat × SV)} {L : Env}, asgS c E = some E' → HS w0 Mu M { σ with env := E } L w S ρ γ μ ι → ∃ L', asgV c L = some L' ∧ HS w0 Mu M { σ with env := E' } L' w S ρ γ μ ι ∧ EnvS (wrOf c) L L' ∧ ∀ t, t ∉ wrOf c → fnd E' t = fnd E t
  | .seq a b, E, E', L, h, hS => by
    have h : (match asgS a E with
      | some E' => asgS b E'
      | none => none) = some E' := h
    cases ha : asgS a E with
    | none => rw [ha] at h; exact (noS h).elim
    | some E1 =>
      rw [ha] at h
      obtain ⟨L1, h1, h2, h3, h4⟩ := asgS_ok a ha hS
      obtain ⟨L2, h5, h6, h7, h8⟩ := asgS_ok b h h2
      refine ⟨L2, ?_, h6, fun t ht => ?_, fun t ht => ?_⟩
      · show (match asgV a L with
          | some L' => asgV b L'
          | none => none) = some L2
        rw [h1]; exact h5
      · have ht : t ∉ wrOf a ++ wrOf b := ht
        exact (h7 t fun hm => ht (List.mem_append_right _ hm)).trans (h3 t fun hm => ht (List.mem_append_left _ hm))
      · have ht : t ∉ wrOf a ++ wrOf b := ht
        rw [h8 t fun hm => ht (List.mem_append_right _ hm), h4 t fun hm => ht (List.mem_append_left _ hm)]
  | .region i ops dr, E, E', L, h, hS => by
    cases dr with
    | true => exact (noS h).elim
    | false => exact asgO_ok ops.toList h hS
  | .skip, _, _, _, h, _ | .cond _ _ _, _, _, _, h, _ | .block _ _, _, _, _, h, _ | .loop _, _, _, _, h, _ | .exit _, _, _, _, h, _ | .ret, _, _, _, h, _ | .rangeFunc _ _ _ _, _, _, _, h, _ | .scope _, _, _, _, h, _ | .label _, _, _, _, h, _ | .goto _, _, _, _, h, _ | .refuse _, _, _, _, h, _ => (noS h).elim
end
theorem ltB_out {N : Nat} : ∀ {l : List Nat}, ltB N l = true → ∀ t ∈ l, Nat.blt t N = true
  | [], _, t, ht => by cases ht
  | p :: l, h, t, ht => by
    have h : (Nat.blt p N && ltB N l) = true := h
    simp only [Bool.and_eq_true] at h
    rcases List.mem_cons.1 ht with rfl | ht
    · exact h.1
    · exact ltB_out h.2 t ht
section
variable {r : Option Nat} {n N : Nat} {ds : List Deferred} {w : World} {A B : Out} {X : Nat → Out} {Z : List PanicEntry → Out}
theorem asgVO_ci {all : Array Oper} : ∀ (ops : List Oper) {L L' : Env}, asgVO ops L = some L' → (∀ t ∈ wrOps ops, Nat.blt t N = true) → A ds L' w → Reg P N all .seq ops ds L w A B X Z ∧ ops.all (fun o => noDefer o.op) = true
  | [], L, L', h, _, hA => by
    have h : some L = some L' := h
    cases h
    exact ⟨Reg.nil hA, rfl⟩
  | ⟨d, op, ty, pos, af, gd⟩ :: r, L, L', h, hN, hA => by
    have hq : (match (generalizing := false) gd, d, op with
      | none, some d, .assign x => (match Sx.ev L x with
        | some v => asgVO r ((d, v) :: L)
        | none => none)
      | _, _, _ => none) = some L' := h
    clear h
    split at hq
    · rename_i d x
      cases hx : Sx.ev L x with
      | none => rw [hx] at hq; exact (noS hq).elim
      | some v =>
        rw [hx] at hq
        obtain ⟨h1, h2⟩ := asgVO_ci (all := all) r hq (fun t ht => hN t (List.mem_cons_of_mem _ ht)) hA
        exact ⟨s_as hx (hN d (List.mem_cons_self ..)) h1, by simp only [List.all_cons, noDefer, Bool.true_and]; exact h2⟩
    · cases hq
theorem asgV_ci : ∀ (c : Code) {L L' : Env} {A : Out}, asgV c L = some L' → (∀ t ∈ wrOf c, Nat.blt t N = true) → A ds L' w → CF r n P N c ds L w A B X Z
  | .seq a b, L, L', A, h, hN, hA => by
    have h : (match asgV a L with
      | some L' => asgV b L'
      | none => none) = some L' := h
    cases ha : asgV a L with
    | none => rw [ha] at h; exact (noS h).elim
    | some L1 =>
      rw [ha] at h
      exact cf_seq (asgV_ci a ha (fun t ht => hN t (List.mem_append_left _ ht)) (asgV_ci b h (fun t ht => hN t (List.mem_append_right _ ht)) hA))
  | .region i ops dr, L, L', A, h, hN, hA => by
    cases dr with
    | true => exact (noS h).elim
    | false =>
      obtain ⟨ops⟩ := ops
      obtain ⟨h1, h2⟩ := asgVO_ci (A := A) (B := B) (X := X) (Z := Z) (all := List.toArray ops) ops h hN hA
      exact cf_reg h2 h1
  | .skip, _, _, _, h, _, _ | .cond _ _ _, _, _, _, h, _, _ | .block _ _, _, _, _, h, _, _ | .loop _, _, _, _, h, _, _ | .exit _, _, _, _, h, _, _ | .ret, _, _, _, h, _, _ | .rangeFunc _ _ _ _, _, _, _, h, _, _ | .scope _, _, _, _, h, _, _ | .label _, _, _, _, h, _, _ | .goto _, _, _, _, h, _, _ | .refuse _, _, _, _, h, _, _ => (noS h).elim
end
/-! What a loop's head carries. -/
theorem noSlot_slots : ∀ {cs : List Cm}, noSlot cs = true → slotsC cs = []
  | [], _ => rfl
  | (.slot _, _) :: _, h => by cases h
  | (.cell _ _, _) :: l, h => noSlot_slots (cs := l) h
  | (.cont _, _) :: l, h => noSlot_slots (cs := l) h
theorem noSlot_allV : ∀ (cs : List Cm) (x : denC cs), noSlot cs = true → allV slotV (toS cs x) = []
  | [], _, _ => rfl
  | [(a, c)], x, h => by
    cases a with
    | slot _ => cases h
    | cell _ _ => cases c <;> rfl
    | cont _ => cases c <;> rfl
  | (a, c) :: d :: l, x, h => by
    have ih : ∀ (h : noSlot (d :: l) = true), allV slotV (toS (d :: l) x.2) = [] := noSlot_allV (d :: l) x.2
    cases a with
    | slot _ => cases h
    | cell _ _ =>
      show slotV c x.1 (.cell _ _) ++ allV slotV (toS (d :: l) x.2) = []
      rw [ih h]
      cases c <;> rfl
    | cont _ =>
      show slotV c x.1 (.cont _) ++ allV slotV (toS (d :: l) x.2) = []
      rw [ih h]
      cases c <;> rfl
theorem unpack_env {W : List Nat} {hd : Sh} {σ : AS} {x : denC hd.cs} (h : noSlot hd.cs = true) : (unpack W hd σ x).env = keepE W hd.keep σ.env := by
  show allV slotV (toS hd.cs x) ++ keepE W hd.keep σ.env = _
  rw [noSlot_allV hd.cs x h, List.nil_append]
theorem unpack_out {W : List Nat} {hd : Sh} {σ : AS} {x : denC hd.cs} (h : noSlot hd.cs = true) {t : Nat} {s : SV} (ht : fnd (unpack W hd σ x).env t = some s) : t ∉ W := by
  rw [unpack_env h, fnd_keepE] at ht
  intro hm
  rw [if_pos hm] at ht
  cases ht
theorem parS_env {ps : List Nat} {ts : List Ty} {x : tupT ts} {pe E : List (Nat × SV)} (h : parS ps ts x = some pe) {t : Nat} (ht : t ∉ ps) : fnd (pe ++ E) t = fnd E t := by
  have one : ∀ (p : Nat) (s : SV) (E : List (Nat × SV)), t ≠ p → fnd ((p, s) :: E) t = fnd E t := fun p s E hne => by
    have : Nat.beq p t = false := by
      cases hb : Nat.beq p t with
      | false => rfl
      | true => exact absurd (Nat.eq_of_beq_eq_true hb).symm hne
    simp only [fnd, this, cond_false]
  unfold parS at h
  split at h
  · cases h
    simp only [List.mem_singleton] at ht
    exact one _ _ _ ht
  · cases h
    simp only [List.mem_cons, List.not_mem_nil, or_false, not_or] at ht
    exact (one _ _ _ ht.2).trans (one _ _ _ ht.1)
  · cases h
/-- The parameters of a round, as values. -/
def parV : List Nat → (ts : List Ty) → tupT ts → Env → Env
  | [p], [t], x, L => (p, valD t x) :: L
  | [p, q], [t, u], x, L => (q, valD u x.2) :: (p, valD t x.1) :: L
  | _, _, _, L => L
section
variable [Anch] {w0 w : World} {Mu M : List Nat} {τ : AS} {L : Env} {S : List Res} {ρ : Nat → Value} {γ : Nat → List Value} {μ : Nat → List Nat} {ι : Nat → Nat}
theorem parS_ok [Sl (P := P)] {ps : List Nat} {ts : List Ty} {x : tupT ts} {pe : List (Nat × SV)} (h : parS ps ts x = some pe) (hx : okIs ts x) (hS : HS (P := P) w0 Mu M τ L w S ρ γ μ ι) : HS w0 Mu M { τ with env := pe ++ τ.env } (parV ps ts x L) w S ρ γ μ ι ∧ EnvS ps L (parV ps ts x L) := by
  unfold parS at h
  split at h
  · rename_i p t x
    cases h
    exact ⟨hS.put (d := p) (ofD_ok t (valD_ok t hx)), EnvS.put _ _ _⟩
  · rename_i p q t u x
    cases h
    have h1 := hS.put (d := p) (ofD_ok t (valD_ok t hx.1))
    exact ⟨h1.put (d := q) (ofD_ok u (valD_ok u hx.2)), fun y hy => by
      simp only [List.mem_cons, List.not_mem_nil, or_false, not_or] at hy
      exact (EnvS.put q _ _ y (by simpa using hy.2)).trans (EnvS.put p L _ y (by simpa using hy.1))⟩
  · cases h
end
end Go.Rx
namespace Go.Rx
open Go Go.Sx Go.RowKit
variable [Trk] [Sg] [Sf] {P : Program} [Se P]
/-- What is owned has advanced from there. -/
abbrev anchA (M0 : List Nat) (w0 : World) : Anch := ⟨fun M w => Adv M0 M w0 w, fun h k => h.trans k⟩
/-- A mark lies there. -/
abbrev anchD (D : Nat) : Anch := ⟨fun M w => D ∉ M ∧ w.heap[D]? = some (.deferred (some [])), fun {M M' w w'} h k => by
  have hlt : D < w.heap.size := heap_lt h.2
  exact ⟨fun hm => (k.new D hm).elim h.1 fun h1 => by omega, (k.kp.block D hlt h.1).trans h.2⟩⟩
theorem HS.anchTo (a b : Anch) {w0 w : World} {Mu M : List Nat} {σ : AS} {L : Env} {S : List Res} {ρ : Nat → Value} {γ : Nat → List Value} {μ : Nat → List Nat} {ι : Nat → Nat} (h : @HS _ _ _ P _ a w0 Mu M σ L w S ρ γ μ ι) (hq : b.Q (mm S M) w) : @HS _ _ _ P _ b w0 Mu M σ L w S ρ γ μ ι := by
  obtain ⟨h1, h2, h3, h4, h5, _⟩ := h
  exact ⟨h1, h2, h3, h4, h5, hq⟩
theorem HS.envTo [Anch] {w0 w : World} {Mu M : List Nat} {σ : AS} {L L2 : Env} {S : List Res} {ρ : Nat → Value} {γ : Nat → List Value} {μ : Nat → List Nat} {ι : Nat → Nat} (h : HS (P := P) w0 Mu M σ L2 w S ρ γ μ ι) (he : ∀ t s, fnd σ.env t = some s → Sx.look L2 t = Sx.look L t) : HS (P := P) w0 Mu M σ L w S ρ γ μ ι :=
  ⟨h.hp, h.res, h.inj, h.row, fun t s ht => by
    obtain ⟨v, h1, h2⟩ := h.env t s ht
    exact ⟨v, (he t s ht).symm.trans h1, h2⟩, h.anch⟩
section
variable {w0 w W : World} {M M0 : List Nat} {σ τ : AS} {L : Env} {S : List Res} {ρ : Nat → Value} {γ : Nat → List Value} {μ : Nat → List Nat} {ι : Nat → Nat}
theorem Start.of (h : HS (P := P) w0 [] M τ L w S ρ γ μ ι) (hi : okIn (fnd τ.res) τ.env = true) : Start P τ.env L (mm S M) w := by
  refine ⟨fun t i v ht hv b hb => ?_, fun t s ht _ => ?_⟩
  · obtain ⟨a, ha⟩ := okIn_out hi ht
    obtain ⟨u, h1, h2, _⟩ := h.env t _ ht
    rw [hv] at h1; cases h1
    have hr := h.row i a ha
    have hm := List.mem_of_getElem? (h.res i a ha)
    have hall := h.hp.all _ hm
    have fin : b ∈ (resOf (P := P) (ρ i) (γ i) (μ i) a).fp → b < w.heap.size := fun hb => h.hp.mlt b (mem_mm.2 (.inl ⟨_, hm, hb⟩))
    cases a with
    | row e c =>
      obtain ⟨⟨b', hb'⟩, _⟩ := hr
      rw [h2, hb'] at hb
      cases hb
    | own p c x =>
      cases c with
      | sl e t =>
        refine fin ?_
        show b ∈ (ocR (P := P) _ (ρ i) (.sl e t) x).fp
        rw [ocR_fp]
        have hO : Sx.Own (enc (P := P) t) e 0 (mm S M) w (ρ i) x := hall
        rw [h2] at hb
        rcases hO with ⟨a, ha, _⟩ | ⟨g, cap, cur, hg, _⟩
        · rw [ha] at hb ⊢; exact hb
        · rw [hg] at hb ⊢; exact hb
      | mp m k v =>
        obtain ⟨b', hb'⟩ := hr
        refine fin ?_
        show b ∈ (ocR (P := P) _ (ρ i) (.mp m k v) x).fp
        rw [ocR_fp]
        rw [h2, hb'] at hb
        rw [hb']
        exact hb
  · obtain ⟨v, h1, h2⟩ := h.env t s ht
    exact ⟨ρ, fnd τ.res, v, h1, h2⟩
theorem wr_ps {ps : List Nat} {assign body : Code} {l : An} {σ : AS} : ∀ t ∈ ps, t ∈ wrRf ps assign body l σ := fun _ h => List.mem_append_left _ h
theorem wr_as {ps : List Nat} {assign body : Code} {l : An} {σ : AS} : ∀ t ∈ wrOf assign, t ∈ wrRf ps assign body l σ := fun _ h => List.mem_append_right _ (List.mem_append_left _ h)
theorem wr_bd {ps : List Nat} {assign body : Code} {l : An} {σ : AS} : ∀ t ∈ wrOf body ++ wrAn l, t ∈ wrRf ps assign body l σ := fun t h => List.mem_append_right _ (List.mem_append_right _ ((List.mem_append.1 h).elim (List.mem_append_left _) fun h => List.mem_append_right _ (List.mem_append_left _ h)))
/-- A round. -/
theorem round_ok [Sl (P := P)] [Sn P] {G : Gx} (hG : GxOk P G) {N : Nat} {Γ : Type} {pr : AS → Option Γ} {ps : List Nat} {assign body : Code} {hd : Sh} {l : An} {Wr : List Nat} {ts : List Ty} {s s2 : denC hd.cs} {x : tupT ts} (hns : noSlot hd.cs = true) (hwp : ∀ t ∈ ps, t ∈ Wr) (hwa : ∀ t ∈ wrOf assign, t ∈ Wr) (hwb : ∀ t ∈ wrOf body ++ wrAn l, t ∈ Wr)
    (hS : Start P (unpack Wr hd σ s).env L M0 w) (hw : w0.heap.size ≤ w.heap.size) (hT : Turn P w0 M M0 w (unpack Wr hd σ s) L W S ρ γ μ ι) (hx : okIs ts x) (hr : roundS G N pr ps assign body hd l Wr σ ts s x = some s2) {L' : Env} (hL : asgV assign (parV ps ts x L) = some L') {k : Nat} :
    CF (some k) 1 P N body [] L' W (fun _ _ W' => KeepsFrom w.heap.size W W' ∧ KI M0 w.heap.size W W' ∧ ∃ S ρ γ μ ι, Turn P w0 M M0 w (unpack Wr hd σ s2) L W' S ρ γ μ ι) (fun _ _ _ => False) NoX (fun _ _ _ _ => False) := by
  unfold roundS at hr
  cases hp : parS ps ts x with
  | none => rw [hp] at hr; exact (noS hr).elim
  | some pe =>
    rw [hp] at hr
    simp only at hr
    cases ha : asgS assign (pe ++ (unpack Wr hd σ s).env) with
    | none => rw [ha] at hr; exact (noS hr).elim
    | some env' =>
      rw [ha] at hr
      simp only at hr
      letI : Anch := anchA (mm S M) W
      have h0 : @HS _ _ _ P _ (anchA (mm S M) W) w0 [] M (unpack Wr hd σ s) L W S ρ γ μ ι := HS.anchTo anch0 (anchA (mm S M) W) hT.hs (Adv.refl _ _)
      obtain ⟨h1, e1⟩ := parS_ok hp hx h0
      obtain ⟨L2, h2, h3, e2, e3⟩ := asgS_ok (σ := unpack Wr hd σ s) assign ha h1
      rw [hL] at h2
      cases h2
      refine exec_ok hG body l _ _ _ _ _ _ _ _ _ _ _ _ _ hr ⟨S, ρ, γ, μ, ι, h3⟩ (fun σ' L2 W2 hk hR hE hH => ?_) (fun i σ' L2 W2 hk => by cases hk) (fun r' σ' L2 W2 _ hk => by cases hk) PZ.no
      cases hpk : packS hd σ' with
      | none => simp only [hpk] at hk; exact (noS hk).elim
      | some s3 =>
        simp only [hpk] at hk
        cases hu : okU (unpack Wr hd σ s3) with
        | false => rw [hu] at hk; exact (noS hk).elim
        | true =>
          rw [hu] at hk
          cases hk
          obtain ⟨S2, ρ2, γ2, μ2, ι2, h4⟩ := hH
          have hsl : ∀ t ∈ slotsC hd.cs, t ∈ Wr := fun t ht => by rw [noSlot_slots hns] at ht; cases ht
          have hR1 : Rel P Wr σ (unpack Wr hd σ s) := unpack_rel hsl fun _ h => h
          have hR2 : Rel P Wr (unpack Wr hd σ s) { unpack Wr hd σ s with env := env' } := ⟨fun _ h => h, fun _ h => h, fun i a h _ => ⟨a, h, RelA.refl a⟩, fun t ht q hq => ⟨q, by
            rw [show fnd env' t = _ from e3 t fun hm => ht (hwa t hm), parS_env hp fun hm => ht (hwp t hm)]; exact hq, Wk.refl q⟩⟩
          obtain ⟨S3, ρ3, γ3, μ3, ι3, h5⟩ := unpack_ok (W := Wr) (σ := σ) h4 (hR1.trans (hR2.trans (hR.mono hwb))) hpk
          have hEv : EnvS Wr L L2 := (e1.mono hwp).trans ((e2.mono hwa).trans (hE.mono hwb))
          have h6 := h5.envTo (L := L) fun t q hq => hEv t (unpack_out hns hq)
          obtain ⟨S4, ι4, h7, h8, _⟩ := h6.tight
          have hA : Adv (mm S M) (mm S4 M) W W2 := h7.anch
          have hA2 : Adv M0 (mm S4 M) w W2 := hT.adv.trans hA
          obtain ⟨k1, k2⟩ := hT.keeps hS hw hA hA2
          exact ⟨k1, k2, S4, ρ3, γ3, μ3, ι4, HS.anchTo (anchA (mm S M) W) anch0 h7 trivial, h8, hu, hA2⟩
end
end Go.Rx
namespace Go.Rx
open Go Go.Sx Go.RowKit
section
variable [Sg] [Sf] (G : Gx)
/-- What is handed back. -/
def resV (σ : AS) : ResultVar → Option SV
  | .tmp t => fnd σ.env t
  | .cell t e => match fnd σ.env t with
    | some v => loadS G (fnd σ.res) e v
    | none => none
def retC (R : Nat → Option AR) : (c : Ck) → SV → Option c.den
  | .d t, s => toD R t s
  | .own c, s => ownD R c s
  | .undef, _ => none
  | .it _, _ => none
  | .np t, s => match s with
    | .raw v => match v with
      | .pointer a => match a with
        | none => some none
        | some _ => none
      | _ => none
    | .np t' x => match x with
      | some y => match castD t' t y with
        | some y => some (some y)
        | none => none
      | none => none
    | .rp v o => match toPt R t (.rp v o) with
      | some x => some (some x)
      | none => none
    | .ptr i o => match toPt R t (.ptr i o) with
      | some x => some (some x)
      | none => none
    | _ => none
def retL (σ : AS) : (cs : List Ck) → List ResultVar → Option (denK cs)
  | [], rs => match rs with
    | [] => some ()
    | _ => none
  | [c], rs => match rs with
    | [r] => match resV G σ r with
      | some s => retC (fnd σ.res) c s
      | none => none
    | _ => none
  | c :: d :: l, rs => match rs with
    | r :: q => match resV G σ r with
      | some s => match retC (fnd σ.res) c s with
        | some x => match retL σ (d :: l) q with
          | some y => some (x, y)
          | none => none
        | none => none
      | none => none
    | [] => none
/-- Slices that are handed back as one's own; what is read of others. -/
def retM (σ : AS) : List Ck → List ResultVar → List Nat
  | .own _ :: l, r :: q => match resV G σ r with
    | some (.own i) => i :: retM σ l q
    | _ => retM σ l q
  | _ :: l, _ :: q => retM σ l q
  | _, _ => []
def retR (σ : AS) : List Ck → List ResultVar → List Nat
  | .d _ :: l, r :: q => match resV G σ r with
    | some s => owns s ++ retR σ l q
    | none => retR σ l q
  | _ :: l, _ :: q => retR σ l q
  | _, _ => []
/-- Pointers are handed back alone. -/
def npK (cs : List Ck) : List Nat → Bool
  | [] => true
  | _ => cs.all fun c => match c with
    | .np _ => false
    | _ => true
def retS (cs : List Ck) (rs : List ResultVar) (σ : AS) : Option (denK cs) := match okK (retM G σ cs rs) (retR G σ cs rs) && npK cs (retM G σ cs rs) with
  | true => retL G σ cs rs
  | false => none
/-- What comes in. -/
def boxSV : (b : Bool) → (t : Ty) → denB b t → SV
  | false, t, x => .rp (ofD t x) 0
  | true, t, x => .rp (.np t x) 0
def boxSVs : (cs : List (Bool × Ty)) → denBs cs → List SV
  | [], _ => []
  | (b, t) :: cs, x => boxSV b t x.1 :: boxSVs cs x.2
def argS : Nat → (ps : List Pt) → denP ps → List (Nat × SV)
  | _, [], _ => []
  | i, .d t :: ps, x => (i, ofD t x.1) :: argS (i + 1) ps x.2
  | i, .pt t :: ps, x => (i, .rp (ofD t x.1) 0) :: argS (i + 1) ps x.2
  | i, .fn a r :: ps, x => (i, .fv a r x.1) :: argS (i + 1) ps x.2
  | i, .pp t :: ps, x => (i, boxSV true t x.1) :: argS (i + 1) ps x.2
  | i, .nl :: ps, x => (i, .nilS) :: argS (i + 1) ps x.2
  | i, .cl g cs :: ps, x => (i, .rp (.fn g (boxSVs cs x.1)) 0) :: argS (i + 1) ps x.2
/-- A function. -/
noncomputable def runF (f : Func) (an : An) (ps : List Pt) (cs : List Ck) (a : denP ps) : Option (denK cs) := match f.body with
  | some c => exec G f.ntmps (retS G cs f.results.toList) c an (retS G cs f.results.toList) (fun _ _ => none) some ⟨argS 0 ps a, [], [], []⟩
  | none => none
end
variable [Trk] [Sg] [Sf] {P : Program} [Se P]
section
variable [Anch]
variable {w0 w : World} {Mu M : List Nat} {σ : AS} {L : Env} {S : List Res} {ρ : Nat → Value} {γ : Nat → List Value} {μ : Nat → List Nat} {ι : Nat → Nat} {G : Gx}
theorem Cells.drop {w : World} {b o : Nat} {vs : List Value} (h : Cells w b o vs) {o' : Nat} {cs : List Value} (hc : ∀ j y, cs[j]? = some y → vs[o' + j]? = some y) : Cells w b (o + o') cs := fun j y hy => by
  have := h (o' + j) y (hc j y hy)
  rwa [← Nat.add_assoc] at this
theorem rsAt [Sl (P := P)] (h : HS w0 Mu M σ L w S ρ γ μ ι) (hG : GxOk P G) {t e b o0 o : Nat} {v s : SV} {u : Value} {vs : List Value} (hx : Sx.look L t = some (.pointer (some ⟨b, o0 + o, none⟩))) (hC : Cells w b o0 vs) (hu : u.cells = List.toArray vs) (hv : Ok ρ (fnd σ.res) (mm S M) w v u) (hc : loadC G e o v = some s) : ∃ y, RsOk P L w (.cell t e) y ∧ Ok ρ (fnd σ.res) (mm S M) w s y := by
  have hl : u.cells.toList = vs := by rw [hu]
  rcases loadC_ok hc hv with ⟨ha, y, h1, h2⟩ | ⟨n, cs, ha, h1, h2, h3⟩
  · rw [hl] at h1
    exact ⟨y, .one hx (hC o y h1) (AgOk.at0 hG.ag ha), h2⟩
  · refine ⟨_, .agg hx (Cells.drop hC fun j y hy => ?_) (AgOk.at1 hG.ag ha).1 h1 (AgOk.at1 hG.ag ha).2, h3⟩
    have := h2 j y hy
    rwa [hl] at this
theorem resV_ok [Sl (P := P)] (h : HS w0 Mu M σ L w S ρ γ μ ι) (hG : GxOk P G) {r : ResultVar} {s : SV} (hr : resV G σ r = some s) : ∃ v, RsOk P L w r v ∧ Ok ρ (fnd σ.res) (mm S M) w s v := by
  cases r with
  | tmp t =>
    obtain ⟨v, h1, h2⟩ := h.env t s hr
    exact ⟨v, .tmp h1, h2⟩
  | cell t e =>
    have hr : (match fnd σ.env t with
      | some v => loadS G (fnd σ.res) e v
      | none => none) = some s := hr
    cases hf : fnd σ.env t with
    | none => rw [hf] at hr; exact (noS hr).elim
    | some v =>
      rw [hf] at hr
      simp only at hr
      obtain ⟨a, h1, h2⟩ := h.env t v hf
      cases v with
      | rp v o =>
        obtain ⟨b, o0, u', vs, rfl, h3, h4, h5⟩ := h2
        exact rsAt h hG h1 h3.cells h5 h4 hr
      | ptr i o =>
        have hr : (match fnd σ.res i with
          | some (.row _ l) => loadC G e o (.agg l)
          | _ => none) = some s := hr
        cases hi : fnd σ.res i with
        | none => rw [hi] at hr; exact (noS hr).elim
        | some a =>
          rw [hi] at hr
          cases a with
          | own _ _ _ => exact (noS hr).elim
          | row e' l =>
            obtain ⟨b, h3, rfl⟩ := h2
            obtain ⟨b', h4, h5, h6, _⟩ := h.rowAt hi
            rw [h3] at h4; cases h4
            exact rsAt (u := .agg (List.toArray (γ i))) (v := .agg l) (o0 := 0) h hG (by rw [h1, Nat.zero_add]) h5.rd.cells rfl ⟨_, rfl, h6⟩ hr
      | ep i u ix z o =>
        cases z with
        | none => exact (noS hr).elim
        | some z =>
          obtain ⟨g, n, c, p, e', xs, h3, h4, h5, rfl, h6⟩ := h2
          have ho := h.ownAt h4
          have hz := (ixo_out (h6 z rfl)).2.2
          obtain ⟨g', cap, cur, h7, h8, _⟩ := ho.at_ (by have := h5.1; have := h5.2; omega)
          rw [h3] at h7; cases h7
          obtain ⟨cs, h9, h10⟩ := ho.cellsAt h8 hz
          obtain ⟨y, h11, h12⟩ := OkD.of_cells h9
          exact rsAt h hG h1 h10 h12 (ofD_ok u h11) hr
      | int _ _ | bool _ | ary _ _ _ | str _ _ | agg _ | fv _ _ _ | fn _ _ | undef | dead | tup _ | dat _ _ | own _ | nilS | raw _ | it _ _ | np _ _ | ap _ _ _ _ => exact (noS hr).elim
theorem Own.nilO (h : Hp w0 Mu M S w) {c : Oc} {x : den c.ty} (hx : nilO c = some x) : Hnd (.slice none 0 0) c ∧ (ocR (P := P) [] (.slice none 0 0) c x).holds (obO c (.slice none 0 0) ++ M) w ∧ ∀ b ∈ obO c (.slice none 0 0), w0.heap.size ≤ b := by
  refine ⟨?_, oc_out (nilO_add h hx) 0 rfl⟩
  cases c with
  | sl _ _ => trivial
  | mp _ _ _ => cases hx
theorem retC_ok [Sl (P := P)] (h : HS w0 Mu M σ L w S ρ γ μ ι) {mv : List Nat} (hmv : ∀ i ∈ mv, ∃ a, fnd σ.res i = some a) {c : Ck} {s : SV} {x : c.den} {v : Value} (hc : retC (fnd σ.res) c s = some x) (hv : Ok ρ (fnd σ.res) (mm S M) w s v)
    (hd : ∀ t, c = .d t → ∀ i ∈ owns s, i ∉ mv) (ho : ∀ e i, c = .own e → s = .own i → i ∈ mv) (hnp : ∀ t, c = .np t → mv = []) : (∀ Mo, (∀ b ∈ Mo, b ∈ mm (sel S (mv.map ι)) M) → CkOk M Mo w0 w c x v) ∧ ∀ e, c = .own e → ∀ b ∈ obO e v, b ∈ mm (sel S (mv.map ι)) M := by
  cases c with
  | d t =>
    refine ⟨fun Mo hMo => ?_, fun e hc => by cases hc⟩
    refine toD_ok (fun b hb => mm_sel (hMo b hb)) t s (fun i hi p c0 xs ha => ?_) hc hv
    have hn := hd t rfl i hi
    have hcn : (mv.map ι).contains (ι i) = false := by
      cases hb : (mv.map ι).contains (ι i) with
      | false => rfl
      | true =>
        simp only [List.contains_eq_mem, decide_eq_true_eq] at hb
        obtain ⟨j, hj, he⟩ := List.mem_map.1 hb
        obtain ⟨b, hb⟩ := hmv j hj
        have := h.inj j i b _ hb ha he
        subst this
        exact absurd hj hn
    exact (oc_lend h.hp _ (ι i) hcn (h.row i _ ha) (h.res i _ ha)).adv (Adv.drop hMo)
  | own e =>
    rcases ownD_out hc with ⟨i, rfl, hi⟩ | ⟨rfl, hx⟩
    · have hr := h.res i _ hi
      obtain ⟨h1, h2, h3⟩ := hv
      subst h1
      have hm := ho e i rfl rfl
      refine ⟨fun Mo _ => ⟨h.row i _ hi, oc_out h.hp (ι i) hr⟩, fun _ he b hb => ?_⟩
      cases he
      refine mem_mm.2 (.inl ⟨resOf (ρ i) (γ i) (μ i) (.own false e x), ?_, mem_ocR (P := P) hb⟩)
      have hk : (sel S (mv.map ι))[pos mv i]? = S[ι i]? := sel_pos (fun j hj => by
        obtain ⟨a, ha⟩ := hmv j hj
        exact ⟨_, h.res j a ha⟩) hm
      rw [hr] at hk
      exact List.mem_of_getElem? hk
    · have hv : v = .slice none 0 0 := hv
      subst hv
      refine ⟨fun Mo _ => Own.nilO h.hp hx, fun _ he b hb => ?_⟩
      cases he
      exact (nilO_fp (P := P) (show nilO e = some (show den e.ty from x) from hx) (mem_ocR (P := P) hb)).elim
  | undef | it _ => exact (noS hc).elim
  | np t =>
    refine ⟨fun Mo hMo => ?_, fun e hc => by cases hc⟩
    have hmv0 := hnp t rfl
    subst hmv0
    have hMo : ∀ b ∈ Mo, b ∈ M := fun b hb => hMo b hb
    have hM : ∀ b ∈ M, b ∈ mm S M := fun b hb => mem_mm.2 (.inr hb)
    have key : ∀ {s : SV} {x : Option (den t)}, (match toPt (fnd σ.res) t s with
        | some x => some (some x)
        | none => none) = some x → Ok ρ (fnd σ.res) (mm S M) w s v → NpOk Mo w t x v := fun {s x} hq hv => by
      cases hp : toPt (fnd σ.res) t s with
      | none => rw [hp] at hq; exact (noS hq).elim
      | some y =>
        rw [hp] at hq
        cases hq
        obtain ⟨b, o, vs, h1, h2, h3⟩ := toPt_ok (M' := M) hM (h.lend (owns s)) hp hv
        exact (NpOk.mon hMo (.inr ⟨y, b, o, vs, rfl, h1, h2, h3⟩))
    cases s with
    | raw u =>
      obtain ⟨hv, _⟩ := hv
      subst hv
      cases v with
      | pointer a =>
        cases a with
        | none =>
          have hc : some none = some x := hc
          cases hc
          exact .inl ⟨rfl, rfl⟩
        | some _ => exact (noS hc).elim
      | _ => exact (noS hc).elim
    | np t' q =>
      cases q with
      | none => exact (noS hc).elim
      | some y =>
        have hq : (match castD t' t y with
          | some y => some (some y)
          | none => none) = some x := hc
        exact key (s := .np t' (some y)) hq hv
    | rp u o => exact key (s := .rp u o) hc hv
    | ptr i o => exact key (s := .ptr i o) hc hv
    | int _ _ | bool _ | ary _ _ _ | str _ _ | agg _ | fv _ _ _ | fn _ _ | undef | dead | tup _ | dat _ _ | own _ | nilS | ep _ _ _ _ _ | it _ _ | ap _ _ _ _ => exact (noS hc).elim
theorem retM_mem {i : Nat} {r : ResultVar} {e : Oc} (hr : resV G σ r = some (.own i)) {l : List Ck} {q : List ResultVar} : i ∈ retM G σ (.own e :: l) (r :: q) := by
  simp only [retM, hr]; exact List.mem_cons_self ..
theorem retM_tail {c : Ck} {r : ResultVar} {l : List Ck} {q : List ResultVar} {i : Nat} (h : i ∈ retM G σ l q) : i ∈ retM G σ (c :: l) (r :: q) := by
  cases c with
  | d _ => exact h
  | undef | it _ | np _ => exact h
  | own e =>
    simp only [retM]
    split
    · exact List.mem_cons_of_mem _ h
    · exact h
theorem retR_tail {c : Ck} {r : ResultVar} {l : List Ck} {q : List ResultVar} {i : Nat} (h : i ∈ retR G σ l q) : i ∈ retR G σ (c :: l) (r :: q) := by
  cases c with
  | undef | it _ | np _ => exact h
  | own _ => exact h
  | d t =>
    simp only [retR]
    split
    · exact List.mem_append_right _ h
    · exact h
theorem retM_dom : ∀ {cs : List Ck} {rs : List ResultVar} {x : denK cs}, retL G σ cs rs = some x → ∀ i ∈ retM G σ cs rs, ∃ a, fnd σ.res i = some a := by
  have one : ∀ {i : Nat} {e : Oc} {x : den e.ty}, ownD (fnd σ.res) e (.own i) = some x → ∃ a, fnd σ.res i = some a := fun {i e x} h => by
    rcases ownD_out h with ⟨j, he, hj⟩ | ⟨he, _⟩
    · cases he; exact ⟨_, hj⟩
    · cases he
  intro cs
  induction cs with
  | nil => intro rs x _ i hi; cases rs <;> cases hi
  | cons c l ih =>
    intro rs x h i hi
    cases rs with
    | nil => cases c <;> cases hi
    | cons r q =>
      have hd : ∃ s y, resV G σ r = some s ∧ retC (fnd σ.res) c s = some y := by
        cases l with
        | nil =>
          cases q with
          | cons _ _ => exact (noS h).elim
          | nil =>
            have h : (match resV G σ r with
              | some s => retC (fnd σ.res) c s
              | none => none) = some x := h
            cases hs : resV G σ r with
            | none => rw [hs] at h; exact (noS h).elim
            | some s => rw [hs] at h; exact ⟨s, x, rfl, h⟩
        | cons d l =>
          have h : (match resV G σ r with
            | some s => match retC (fnd σ.res) c s with
              | some x => match retL G σ (d :: l) q with
                | some y => some (x, y)
                | none => none
              | none => none
            | none => none) = some x := h
          cases hs : resV G σ r with
          | none => rw [hs] at h; exact (noS h).elim
          | some s =>
            rw [hs] at h
            simp only at h
            cases hy : retC (fnd σ.res) c s with
            | none => rw [hy] at h; exact (noS h).elim
            | some y => exact ⟨s, y, rfl, hy⟩
      obtain ⟨s, y, hs, hy⟩ := hd
      have ht : i ∈ retM G σ l q → ∃ a, fnd σ.res i = some a := fun hi => by
        cases l with
        | nil => cases q <;> cases hi
        | cons d l =>
          have h : (match resV G σ r with
            | some s => match retC (fnd σ.res) c s with
              | some x => match retL G σ (d :: l) q with
                | some y => some (x, y)
                | none => none
              | none => none
            | none => none) = some x := h
          rw [hs] at h
          simp only [hy] at h
          cases hz : retL G σ (d :: l) q with
          | none => rw [hz] at h; exact (noS h).elim
          | some z => exact ih hz i hi
      cases c with
      | d _ => exact ht hi
      | undef | it _ | np _ => exact ht hi
      | own e =>
        simp only [retM, hs] at hi
        split at hi
        · rename_i j he
          cases he
          rcases List.mem_cons.1 hi with rfl | hi
          · exact one (show ownD (fnd σ.res) e (.own i) = some y from hy)
          · exact ht hi
        · exact ht hi
theorem npK_hd {c : Ck} {l : List Ck} {mv : List Nat} (h : npK (c :: l) mv = true) : ∀ t, c = .np t → mv = [] := fun t hc => by
  cases mv with
  | nil => rfl
  | cons _ _ =>
    subst hc
    simp [npK] at h
theorem npK_tl {c : Ck} {l : List Ck} {mv : List Nat} (h : npK (c :: l) mv = true) : npK l mv = true := by
  cases mv with
  | nil => rfl
  | cons _ _ =>
    simp only [npK, List.all_cons, Bool.and_eq_true] at h ⊢
    exact h.2
theorem retL_ok [Sl (P := P)] (h : HS w0 Mu M σ L w S ρ γ μ ι) (hG : GxOk P G) {mv : List Nat} (hmv : ∀ i ∈ mv, ∃ a, fnd σ.res i = some a) : ∀ (cs : List Ck) (rs : List ResultVar) {x : denK cs}, (∀ i ∈ retM G σ cs rs, i ∈ mv) → (∀ i ∈ retR G σ cs rs, i ∉ mv) → npK cs mv = true → retL G σ cs rs = some x →
    ∃ vs, AllRs P L w rs vs ∧ vs.length = cs.length ∧ (∀ Mo, (∀ b ∈ Mo, b ∈ mm (sel S (mv.map ι)) M) → KsOk M Mo w0 w cs x vs) ∧ ∀ b ∈ obK cs vs, b ∈ mm (sel S (mv.map ι)) M
  | [], rs, x, _, _, _, hx => by
    cases rs with
    | nil => exact ⟨[], .nil, rfl, fun _ _ => rfl, fun b hb => by cases hb⟩
    | cons _ _ => exact (noS hx).elim
  | [c], rs, x, h1, h2, hnk, hx => by
    cases rs with
    | nil => exact (noS hx).elim
    | cons r q =>
      cases q with
      | cons _ _ => exact (noS hx).elim
      | nil =>
        have hx : (match resV G σ r with
          | some s => retC (fnd σ.res) c s
          | none => none) = some x := hx
        cases hs : resV G σ r with
        | none => rw [hs] at hx; exact (noS hx).elim
        | some s =>
          rw [hs] at hx
          obtain ⟨v, h3, h4⟩ := resV_ok h hG hs
          obtain ⟨h5, h6⟩ := retC_ok h hmv hx h4 (fun t hc i hi => h2 i (by subst hc; simp only [retR, hs]; exact List.mem_append_left _ hi)) (fun e i hc he => h1 i (by subst hc; subst he; exact retM_mem hs)) (npK_hd hnk)
          refine ⟨[v], .cons h3 .nil, rfl, fun Mo hMo => ⟨v, rfl, h5 Mo hMo⟩, fun b hb => ?_⟩
          cases c with
          | d _ => cases hb
          | undef | it _ | np _ => cases hb
          | own e =>
            have hb : b ∈ obO e v ++ [] := hb
            rw [List.append_nil] at hb
            exact h6 e rfl b hb
  | c :: d :: l, rs, x, h1, h2, hnk, hx => by
    cases rs with
    | nil => exact (noS hx).elim
    | cons r q =>
      have hx : (match resV G σ r with
        | some s => match retC (fnd σ.res) c s with
          | some x => match retL G σ (d :: l) q with
            | some y => some (x, y)
            | none => none
          | none => none
        | none => none) = some x := hx
      cases hs : resV G σ r with
      | none => rw [hs] at hx; exact (noS hx).elim
      | some s =>
        rw [hs] at hx
        simp only at hx
        cases hy : retC (fnd σ.res) c s with
        | none => rw [hy] at hx; exact (noS hx).elim
        | some y =>
          rw [hy] at hx
          simp only at hx
          cases hz : retL G σ (d :: l) q with
          | none => rw [hz] at hx; exact (noS hx).elim
          | some z =>
            rw [hz] at hx
            have hx : (y, z) = x := Option.some.inj hx
            subst hx
            obtain ⟨v, h3, h4⟩ := resV_ok h hG hs
            obtain ⟨h5, h6⟩ := retC_ok h hmv hy h4 (fun t hc i hi => h2 i (by subst hc; simp only [retR, hs]; exact List.mem_append_left _ hi)) (fun e i hc he => h1 i (by subst hc; subst he; exact retM_mem hs)) (npK_hd hnk)
            obtain ⟨vs, h7, h8, h9, h10⟩ := retL_ok h hG hmv (d :: l) q (fun i hi => h1 i (retM_tail hi)) (fun i hi => h2 i (retR_tail hi)) (npK_tl hnk) hz
            refine ⟨v :: vs, .cons h3 h7, by simp [h8], fun Mo hMo => ⟨v, vs, rfl, h5 Mo hMo, h9 Mo hMo⟩, fun b hb => ?_⟩
            cases c with
            | d _ => exact h10 b hb
            | undef | it _ | np _ => exact h10 b hb
            | own e =>
              rcases List.mem_append.1 (show b ∈ obO e v ++ obK (d :: l) vs from hb) with hb | hb
              · exact h6 e rfl b hb
              · exact h10 b hb
end
theorem boxSV_ok {M : List Nat} {w : World} {ρ : Nat → Value} {R : Nat → Option AR} : ∀ (b : Bool) {t : Ty} {x : denB b t} {v : Value}, BOk (P := P) M w b t x v → Ok ρ R M w (boxSV b t x) v
  | false, u, x, v, ⟨b, o, vs, h1, h4, h5⟩ => by
    obtain ⟨y, h6, h7⟩ := OkD.of_cells h5
    exact ⟨b, o, y, vs, h1, h4, ofD_ok u h6, h7⟩
  | true, u, x, v, ⟨b, o, y, h1, h4, h5⟩ => ⟨b, o, y, [y], h1, h4, h5, by rw [(NpOk.one h5).1]⟩
theorem boxSVs_ok {M : List Nat} {w : World} {ρ : Nat → Value} {R : Nat → Option AR} : ∀ (cs : List (Bool × Ty)) {x : denBs cs} {vs : List Value}, BsOk (P := P) M w cs x vs → OkV ρ R M w (boxSVs cs x) vs
  | [], _, _, h => h
  | (b, _) :: cs, _, _, ⟨v, r, h1, h2, h3⟩ => ⟨v, r, h1, boxSV_ok b h2, boxSVs_ok cs h3⟩
theorem argS_ok [Sl (P := P)] {M : List Nat} {w : World} {ρ : Nat → Value} {R : Nat → Option AR} : ∀ (ps : List Pt) (i : Nat) {a : denP ps} {vals : List Value}, ArgsOk M w ps a vals → ∀ t s, fnd (argS i ps a) t = some s → ∃ v, Sx.look (argEnv i vals) t = some v ∧ Ok ρ R M w s v
  | [], _, _, _, _, t, s, h => by cases h
  | p :: ps, i, a, vals, ⟨v, r, h1, h2, h3⟩, t, s, h => by
    subst h1
    have key : ∀ s0, Ok ρ R M w s0 v → fnd ((i, s0) :: argS (i + 1) ps a.2) t = some s → ∃ v', Sx.look (argEnv i (v :: r)) t = some v' ∧ Ok ρ R M w s v' := fun s0 h0 h => by
      rw [fnd_cons] at h
      show ∃ v', Sx.look ((i, v) :: argEnv (i + 1) r) t = some v' ∧ _
      rw [look_cons]
      split at h
      · rename_i e; rw [if_pos e]; cases h; exact ⟨v, rfl, h0⟩
      · rename_i e; rw [if_neg e]; exact argS_ok ps (i + 1) h3 t s h
    cases p with
    | d u => exact key _ (ofD_ok u h2) h
    | pt u =>
      obtain ⟨b, o, vs, rfl, h4, h5⟩ := h2
      obtain ⟨y, h6, h7⟩ := OkD.of_cells h5
      exact key (.rp (ofD u a.1) 0) ⟨b, o, y, vs, rfl, h4, ofD_ok u h6, h7⟩ h
    | fn q r => exact key (.fv q r a.1) h2 h
    | pp u => exact key (boxSV true u a.1) (boxSV_ok true h2) h
    | nl => exact key .nilS h2 h
    | cl g cs =>
      obtain ⟨b, o, caps, rfl, h4, h5⟩ := h2
      exact key (.rp (.fn g (boxSVs cs a.1)) 0) ⟨b, o, _, _, rfl, h4, ⟨caps, rfl, boxSVs_ok cs h5⟩, rfl⟩ h
theorem tup_pack : ∀ vs : List Value, packV vs = tupV vs
  | [] => rfl
  | [_] => rfl
  | _ :: _ :: _ => rfl
/-- A function's contract. -/
theorem fun_ok [Sl (P := P)] {G : Gx} (hG : GxOk P G) {k : Nat} {f : Func} {c : Code} {an : An} {ps : List Pt} {cs : List Ck} {F : denP ps → Option (denK cs)} (hf : P.funcs[k]? = some f) (hb : f.body = some c) (hl : Nat.ble ps.length f.ntmps = true) (hn : Nat.ble cs.length 4 = true) (ho : Nat.ble (own1 cs) 1 = true) (hF : ∀ a, F a = runF G f an ps cs a) : Ctr.ok P k ⟨ps, cs, F⟩ := by
  refine ⟨Nat.le_of_ble_eq_true ho, fun M w a vals r hM ha hr => ?_⟩
  have hr : F a = some r := hr
  rw [hF] at hr
  unfold runF at hr
  rw [hb] at hr
  have hlen : ∀ (ps : List Pt) {a : denP ps} {vals : List Value}, ArgsOk M w ps a vals → vals.length = ps.length := by
    intro ps
    induction ps with
    | nil => intro a vals h; have h : vals = [] := h; rw [h]; rfl
    | cons p ps ih => intro a vals h; obtain ⟨v, r, rfl, _, h3⟩ := h; simp [ih h3]
  have h0 : Holds w [] M ⟨argS 0 ps a, [], [], []⟩ (argEnv 0 vals) w := by
    refine ⟨[], fun _ => undef, fun _ => [], fun _ => [], fun _ => 0, ⟨Hp.start hM, (fun i a h => by cases h), (fun i j a b h => by cases h), (fun i a h => by cases h), fun t s h => ?_, trivial⟩⟩
    exact argS_ok ps 0 ha t s h
  have fin : ∀ σ' L' w', retS G cs f.results.toList σ' = some r → Holds w [] M σ' L' w' → FinR P f (fun e w' => ∃ vs, e = .returned (tupV vs) ∧ KsOk M (obK cs vs ++ M) w w' cs r vs ∧ Ext w w') [] L' w' := fun σ' L' w' h1 hH => by
    obtain ⟨S, ρ, γ, μ, ι, hS⟩ := hH
    unfold retS at h1
    cases hk : okK (retM G σ' cs f.results.toList) (retR G σ' cs f.results.toList) && npK cs (retM G σ' cs f.results.toList) with
    | false => rw [hk] at h1; exact (noS h1).elim
    | true =>
      rw [hk] at h1
      simp only [Bool.and_eq_true] at hk
      obtain ⟨vs, h2, h3, h4, h5⟩ := retL_ok hS hG (mv := retM G σ' cs f.results.toList) (retM_dom h1) cs f.results.toList (fun _ h => h) (okK_out hk.1) hk.2 h1
      refine fin_any (by simp) h2 (by rw [h3]; exact hn) ⟨vs, by rw [tup_pack], h4 _ (fun b hb => ?_), ?_⟩
      · exact (List.mem_append.1 hb).elim (h5 b) fun h => mem_mm.2 (.inr h)
      · exact hS.hp.kp
  refine calls_cw hf hb rfl (by rw [hlen ps ha]; exact hl) ?_
  refine cf_wide (n := 3) ?_
  exact exec_ok hG c an _ _ _ _ _ _ _ _ _ _ _ _ _ hr h0 (fun σ' L' w' h1 _ _ hH => fin σ' L' w' h1 hH) (fun i σ' L' w' h1 => by cases h1) (fun r' σ' L' w' hp hk _ hH => by
    have hk : r' = r := Option.some.inj hk
    subst hk
    exact fin σ' L' w' hp hH) PZ.no
def throwS (t : Nat) (u : Ty) (σ : AS) : Option (den u) := match fnd σ.env t with
  | some s => match owns s with
    | [] => toD (fnd σ.res) u s
    | _ => none
  | none => none
noncomputable def runP (G : Gx) (f : Func) (an : An) (ps : List Pt) (T t : Nat) (u : Ty) (a : denP ps) : Option (den u) := match f.body with
  | some c => exec G f.ntmps (fun _ => (none : Option Unit)) c an (fun _ => none) (fun j σ => bif Nat.beq j (panX T t) then throwS t u σ else none) (fun _ => none) ⟨argS 0 ps a, [], [], []⟩
  | none => none
theorem panX_inj {T T' t t' : Nat} (ht : Nat.blt t pnc = true) (ht' : Nat.blt t' pnc = true) (h : panX T t = panX T' t') : T = T' ∧ t = t' := by
  have h1 : t < pnc := by simpa [Nat.blt_eq] using ht
  have h2 : t' < pnc := by simpa [Nat.blt_eq] using ht'
  have h3 : (panX T t) % pnc = t := by unfold panX; rw [Nat.mul_add_mod, Nat.mod_eq_of_lt h1]
  have h4 : (panX T' t') % pnc = t' := by unfold panX; rw [Nat.mul_add_mod, Nat.mod_eq_of_lt h2]
  have e : t = t' := by rw [← h3, ← h4, h]
  subst e
  refine ⟨?_, rfl⟩
  have h5 : pnc * (T + 1) = pnc * (T' + 1) := Nat.add_right_cancel h
  have := Nat.eq_of_mul_eq_mul_left (by decide : 0 < pnc) h5
  omega
theorem funP_ok [Sl (P := P)] {G : Gx} (hG : GxOk P G) {k : Nat} {f : Func} {c : Code} {an : An} {ps : List Pt} {T t : Nat} {u : Ty} {F : denP ps → Option (den u)} (hf : P.funcs[k]? = some f) (hb : f.body = some c) (hl : Nat.ble ps.length f.ntmps = true) (hn : Nat.ble f.ntmps pnc = true) (ht : Nat.blt t f.ntmps = true) (hF : ∀ a, F a = runP G f an ps T t u a) : CtrP.ok P k ⟨ps, u, T, F⟩ := by
  refine fun M w a vals r hM ha hr => ?_
  have hr : F a = some r := hr
  rw [hF] at hr
  unfold runP at hr
  rw [hb] at hr
  have hlen : ∀ (ps : List Pt) {a : denP ps} {vals : List Value}, ArgsOk M w ps a vals → vals.length = ps.length := by
    intro ps
    induction ps with
    | nil => intro a vals h; have h : vals = [] := h; rw [h]; rfl
    | cons p ps ih => intro a vals h; obtain ⟨v, r, rfl, _, h3⟩ := h; simp [ih h3]
  have h0 : Holds w [] M ⟨argS 0 ps a, [], [], []⟩ (argEnv 0 vals) w := by
    refine ⟨[], fun _ => undef, fun _ => [], fun _ => [], fun _ => 0, ⟨Hp.start hM, (fun i a h => by cases h), (fun i j a b h => by cases h), (fun i a h => by cases h), fun t s h => ?_, trivial⟩⟩
    exact argS_ok ps 0 ha t s h
  refine calls_cw hf hb rfl (by rw [hlen ps ha]; exact hl) ?_
  refine cf_wide (n := 3) ?_
  have ht2 : Nat.blt t pnc = true := by
    have h1 : t < f.ntmps := by simpa [Nat.blt_eq] using ht
    have h2 := Nat.le_of_ble_eq_true hn
    simpa [Nat.blt_eq] using (by omega : t < pnc)
  let R : Ending → World → Prop := fun e w' => ∃ v, e = .panicked [{ v := .iface T v, recovered := false }] ∧ OkD (P := P) M w' u r v ∧ Ext w w'
  have key : CF none 3 P f.ntmps c [] (argEnv 0 vals) w (fun _ _ _ => False) (fun _ _ _ => False) NoX (FinZ R) := by
    refine exec_ok hG c an _ _ _ _ _ _ _ _ _ _ (fun j ds L w' => ds = [] ∧ j = panX T t ∧ ∃ v, Sx.look L t = some v ∧ OkD (P := P) M w' u r v ∧ Ext w w') _ _ hr h0 (fun σ' L' w' h1 => by cases h1) (fun j σ' L' w' h1 _ _ hH => ?_) (fun r' σ' L' w' hp => by cases hp) ?_
    · have h1 : (bif Nat.beq j (panX T t) then throwS t u σ' else none) = some r := h1
      cases hj : Nat.beq j (panX T t) with
      | false => rw [hj] at h1; exact (noS h1).elim
      | true =>
        rw [hj, cond_true] at h1
        obtain ⟨S, ρ, γ, μ, ι, hS⟩ := hH
        unfold throwS at h1
        cases hs : fnd σ'.env t with
        | none => rw [hs] at h1; exact (noS h1).elim
        | some s =>
          rw [hs] at h1
          simp only at h1
          obtain ⟨v, hv, hok⟩ := hS.env t s hs
          cases ho : owns s with
          | cons _ _ => rw [ho] at h1; exact (noS h1).elim
          | nil =>
            rw [ho] at h1
            exact ⟨rfl, Nat.eq_of_beq_eq_true hj, v, hv, toD_ok (M' := M) (fun b hb => mem_mm.2 (.inr hb)) u s (by rw [ho]; exact fun i hi => by cases hi) h1 hok, hS.hp.kp⟩
    · refine ⟨?_, fun i L w' hi h => ?_⟩
      · rintro T' t' L1 L2 w' v ht' _ ⟨_, hj, v', hv, hok, hx⟩
        obtain ⟨rfl, rfl⟩ := panX_inj ht' ht2 hj
        rw [look_cons, if_pos rfl] at hv
        cases hv
        exact ⟨rfl, _, rfl, hok, hx⟩
      · obtain ⟨_, hj, _⟩ := h
        have h1 : i < pnc := by simpa [Nat.blt_eq] using hi
        have h2 : pnc ≤ panX T t := Nat.le_trans (Nat.le_mul_of_pos_right _ (Nat.succ_pos T)) (Nat.le_add_right _ _)
        omega
  refine fun a ha => wpIn_mono (key a ha) fun e a' w' hq => ?_
  cases e with
  | normal => obtain ⟨_, _, _, h⟩ := hq; exact h.elim
  | ret => obtain ⟨_, _, _, h⟩ := hq; exact h.elim
  | exit i => obtain ⟨_, _, _, h⟩ := hq; exact h.elim
  | panic ch => exact hq
  | goto l => exact hq.elim
  | outgrown => exact hq.elim
end Go.Rx
namespace Go.Rx
open Go Go.Sx Go.RowKit
variable [Trk] [Sg] [Sf] {P : Program} [Se P]
theorem KI.trans {M : List Nat} {n : Nat} {a b c : World} (h : KI M n a b) (k : KI M n b c) : KI M n a c :=
  ⟨k.1.trans h.1, k.2.1.trans h.2.1, k.2.2.1.trans h.2.2.1, Nat.le_trans h.2.2.2.1 k.2.2.2.1, fun b hb hn => (k.2.2.2.2 b hb hn).trans (h.2.2.2.2 b hb hn)⟩
theorem KI.refl (M : List Nat) (n : Nat) (a : World) : KI M n a a := ⟨rfl, rfl, rfl, Nat.le_refl _, fun _ _ _ => rfl⟩
theorem KI.putObj {M : List Nat} {n : Nat} {w : World} {l : Nat} {o : Obj} (h : n ≤ l) : KI M n w (w.putObj l o) :=
  ⟨rfl, rfl, rfl, by simp, fun b hb _ => World.putObj_heap_other (by omega)⟩
section
variable {w0 w : World} {M : List Nat} {σ : AS} {L : Env} {N : Nat} {Γ : Type} {pr : AS → Option Γ} {ds : List Deferred} {A B : Out} {X : Nat → Out} {Z : List PanicEntry → Out}
theorem range_ok [Sl (P := P)] [Sn P] (htk : ¬ Trk.t) {G : Gx} (hG : GxOk P G) {g : Operand} {ps : Array Nat} {assign body : Code} {hd : Sh} {l : An} {ts : List Ty} {xs : List (tupT ts)} {s0 s : denC hd.cs} {Wr : List Nat} (hH : Holds (P := P) w0 [] M σ L w) (hg : evS σ.env g = some (.it ts xs)) (hns : noSlot hd.cs = true) (hlp : ltB N ps.toList = true) (hla : ltB N (wrOf assign) = true) (hpb : parB ps.toList ts = true)
    (hwp : ∀ t ∈ ps.toList, t ∈ Wr) (hwa : ∀ t ∈ wrOf assign, t ∈ Wr) (hwb : ∀ t ∈ wrOf body ++ wrAn l, t ∈ Wr)
    (h0 : packS hd σ.start = some s0) (hin : okIn (fnd (unpack Wr hd σ.start s0).res) (unpack Wr hd σ.start s0).env = true) (hu : okU (unpack Wr hd σ.start s0) = true) (ho : overM (S := denC hd.cs) (roundS G N pr ps.toList assign body hd l Wr σ.start ts) s0 xs = some s)
    (hA : ∀ D w', w0.heap.size ≤ D → @Holds _ _ _ P _ (anchD D) w0 [] M (unpack Wr hd σ.start s) L w' → A ({ target := .collected D, args := #[] } :: ds) L w') : CW P N (.rangeFunc g ps assign body) ds L w A B X Z := by
  obtain ⟨S, ρ, γ, μ, ι, h⟩ := hH
  -- the start
  have hsl : ∀ t ∈ slotsC hd.cs, t ∈ Wr := fun t ht => by rw [noSlot_slots hns] at ht; cases ht
  have h1 : @HS _ _ _ P _ (anchA (mm S M) w) w0 [] M σ.start L w S ρ γ μ ι := HS.anchTo anch0 (anchA (mm S M) w) (σ := σ.start) ⟨h.hp, h.res, h.inj, h.row, h.env, trivial⟩ (Adv.refl _ _)
  obtain ⟨S1, ρ1, γ1, μ1, ι1, h2⟩ : @Holds _ _ _ P _ (anchA (mm S M) w) w0 [] M (unpack Wr hd σ.start s0) L w := by
    letI := anchA (mm S M) w
    exact unpack_ok h1 (Rel.refl (W := Wr) _) h0
  obtain ⟨S0, ι0, h3, ht0, _⟩ := @HS.tight _ _ _ P _ (anchA (mm S M) w) _ _ _ _ _ _ _ _ _ _ _ h2
  have hA0 : Adv (mm S M) (mm S0 M) w w := by
    letI := anchA (mm S M) w
    exact h3.anch
  have h4 : HS (P := P) w0 [] M (unpack Wr hd σ.start s0) L w S0 ρ1 γ1 μ1 ι0 := HS.anchTo (anchA (mm S M) w) anch0 h3 trivial
  have hSt : Start P (unpack Wr hd σ.start s0).env L (mm S0 M) w := Start.of h4 hin
  have hT0 : Turn P w0 M (mm S0 M) w (unpack Wr hd σ.start s0) L w S0 ρ1 γ1 μ1 ι0 := ⟨h4, ht0, hu, Adv.refl _ _⟩
  have henv : ∀ s', (unpack Wr hd σ.start s').env = (unpack Wr hd σ.start s0).env := fun s' => by rw [unpack_env hns, unpack_env hns]
  have hSt' : ∀ s', Start P (unpack Wr hd σ.start s').env L (mm S0 M) w := fun s' => by rw [henv s']; exact hSt
  have hw : w0.heap.size ≤ w.heap.size := h.hp.kp.size
  obtain ⟨ho1, ho2⟩ := overM_out ho
  -- the iterator
  obtain ⟨v, hv, ⟨gf, lb, rfl, heg, hok, hit⟩, _⟩ := h.ev hg
  have hseq := hit (mm S0 M) w hA0 h4.hp.mlt {x // x ∈ xs} Subtype.val xs.attach (List.attach_map_subtype_val xs)
  -- rounds
  let I : List {x // x ∈ xs} → World → Prop := fun pre W => ∃ s S ρ γ μ ι, List.foldlM (roundS G N pr ps.toList assign body hd l Wr σ.start ts) s0 (pre.map Subtype.val) = some s ∧ Turn P w0 M (mm S0 M) w (unpack Wr hd σ.start s) L W S ρ γ μ ι
  let AL : {x // x ∈ xs} → Env → World → Prop := fun x L' _ => asgV assign (parV ps.toList ts x.1 L) = some L'
  have hI : OwnFrom w.heap.size I := fun pre W W' row hp hgr hr => by
    obtain ⟨s, S, ρ, γ, μ, ι, e1, e2⟩ := hp
    exact ⟨s, S, ρ, γ, μ, ι, e1, e2.turn htk (hSt' s) hw hgr hr⟩
  have hAL : ∀ x L', OwnFrom w.heap.size fun (_ : Unit) W => AL x L' W := fun x L' _ _ _ _ h _ _ => h
  have hI0 : I [] w := ⟨s0, S0, ρ1, γ1, μ1, ι0, rfl, hT0⟩
  have has : ∀ x : {x // x ∈ xs}, ∃ L', asgV assign (parV ps.toList ts x.1 L) = some L' := fun x => by
    have hlen : ([] : List (tupT ts)).length < xs.length := List.length_pos_of_mem x.2
    obtain ⟨s', e1, _⟩ := ho2 [] x.1 s0 hlen (fun y hy => by cases hy) x.2 rfl
    unfold roundS at e1
    cases hp : parS ps.toList ts x.1 with
    | none => rw [hp] at e1; exact (noS e1).elim
    | some pe =>
      rw [hp] at e1
      simp only at e1
      cases ha : asgS assign (pe ++ (unpack Wr hd σ.start s0).env) with
      | none => rw [ha] at e1; exact (noS e1).elim
      | some env' =>
        obtain ⟨e3, _⟩ := parS_ok hp (hok x.1 x.2) h4
        obtain ⟨L', e4, _⟩ := asgS_ok (σ := unpack Wr hd σ.start s0) assign ha e3
        exact ⟨L', e4⟩
  have hassign : ∀ (k : Nat) (pre : List {x // x ∈ xs}) (x : {x // x ∈ xs}) (W : World), I pre W → CI k 1 P N assign [] (parV ps.toList ts x.1 L) W (fun ds' L' W' => ds' = [] ∧ KeepsFrom w.heap.size W W' ∧ KI (mm S0 M) w.heap.size W W' ∧ I pre W' ∧ AL x L' W') (fun _ _ _ => False) NoX (fun _ _ _ _ => False) := fun k pre x W hp => by
    obtain ⟨L', e1⟩ := has x
    exact cf_round (asgV_ci assign e1 (fun t ht => ltB_out hla t ht) ⟨rfl, KeepsFrom.refl _ _, KI.refl _ _ _, hp, e1⟩)
  have hbody : ∀ (k : Nat) (pre : List {x // x ∈ xs}) (x : {x // x ∈ xs}) (L' : Env) (W : World), I pre W → AL x L' W → pre.length < xs.attach.length →
      CI k 1 P N body [] L' W (fun _ _ W' => KeepsFrom w.heap.size W W' ∧ KI (mm S0 M) w.heap.size W W' ∧ I (pre ++ [x]) W') (fun _ _ W' => KeepsFrom w.heap.size W W' ∧ False) NoX (fun _ _ _ _ => False) := fun k pre x L' W hp hal hlt => by
    obtain ⟨s1, S, ρ, γ, μ, ι, e1, e2⟩ := hp
    obtain ⟨s2, e3, e4⟩ := ho2 (pre.map Subtype.val) x.1 s1 (by simpa using hlt) (fun y hy => by obtain ⟨z, _, rfl⟩ := List.mem_map.1 hy; exact z.2) x.2 e1
    have e5 := round_ok hG hns hwp hwa hwb (hSt' s1) hw e2 (hok x.1 x.2) e3 hal (k := k)
    refine cf_round fun a ha => wpIn_mono (e5 a ha) fun e a' W' hq => ?_
    cases e with
    | normal =>
      obtain ⟨ds', L2, k0, k1, k2, S', ρ', γ', μ', ι', k3⟩ := hq
      exact ⟨ds', L2, k0, k1, k2, s2, S', ρ', γ', μ', ι', by rw [List.map_append]; exact e4, k3⟩
    | ret => obtain ⟨_, _, _, h⟩ := hq; exact h.elim
    | exit i => obtain ⟨_, _, _, h⟩ := hq; exact h.elim
    | panic c => obtain ⟨_, _, _, h⟩ := hq; exact h.elim
    | goto l => exact hq.elim
    | outgrown => exact hq.elim
  have hdone : ∀ (D : Nat) (W : World), w.heap.size ≤ D → I xs.attach W → W.heap[D]? = some (.deferred (some [])) → A ({ target := .collected D, args := #[] } :: ds) L W := fun D W hD hp hd => by
    obtain ⟨s1, S, ρ, γ, μ, ι, e1, e2⟩ := hp
    rw [List.attach_map_subtype_val, ho1] at e1
    cases e1
    refine hA D W (Nat.le_trans hw hD) ⟨S, ρ, γ, μ, ι, HS.anchTo anch0 (anchD D) e2.hs ⟨fun hm => ?_, hd⟩⟩
    rcases mem_mm.1 hm with ⟨r, hr, hb⟩ | hm
    · rcases (e2.tnl (hSt' s) r hr _ W W ⟨Nat.le_refl _, fun _ _ h _ => h⟩ (fun _ _ => rfl) (e2.hs.hp.all r hr)).2 D hb with h5 | ⟨o', h5, h6⟩
      · omega
      · rw [hd] at h5; cases h5; cases h6
    · have := e2.hs.hp.base D hm
      omega
  obtain ⟨ps⟩ := ps
  unfold parB at hpb
  split at hpb
  · rename_i p t hps
    have hps : ps = [p] := hps
    subst hps
    exact cw_rangeV (val := fun x : {x // x ∈ xs} => valD t x.1) (K := KI (mm S0 M) w.heap.size) (xs := xs.attach) hv heg (ltB_out hlp p (List.mem_cons_self ..)) hseq (fun h k => h.trans k) (fun W k o o' hk _ _ _ => KI.putObj hk) I (fun _ _ => False) hI (fun _ _ _ _ h _ _ => h.elim) hI0 AL hAL hassign hbody hdone (fun _ _ _ _ _ h _ => h.elim)
  · rename_i p q t u hps
    have hps : ps = [p, q] := hps
    subst hps
    exact cw_rangeV2 (val := fun x : {x // x ∈ xs} => valD t x.1.1) (val2 := fun x : {x // x ∈ xs} => valD u x.1.2) (K := KI (mm S0 M) w.heap.size) (xs := xs.attach) hv heg (ltB_out hlp p (List.mem_cons_self ..)) (ltB_out hlp q (List.mem_cons_of_mem _ (List.mem_cons_self ..))) hseq (fun h k => h.trans k) (fun W k o o' hk _ _ _ => KI.putObj hk) I (fun _ _ => False) hI (fun _ _ _ _ h _ _ => h.elim) hI0 AL hAL hassign hbody hdone (fun _ _ _ _ _ h _ => h.elim)
  · cases hpb
end
end Go.Rx
