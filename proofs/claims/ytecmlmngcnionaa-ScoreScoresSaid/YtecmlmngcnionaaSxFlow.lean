/-
  Regions that draw their order, some of whose operations make new blocks: what is known of each value stays, so an order need not be named.
-/
import Derived.Test.YtecmlmngcnionaaSxCode
namespace Go.Sx
open Go Go.RowKit
def NoO (_ : List Deferred) (_ : Env) (_ : World) : Prop := False
def NoZ (_ : List PanicEntry) (_ : List Deferred) (_ : Env) (_ : World) : Prop := False
/-- What is asked behind one operation whose value is known by K alone. -/
def Post (ds : List Deferred) (d : Nat) (x : PK) (w : World) (ds' : List Deferred) (L' : Env) (w' : World) : Prop := ds' = ds ∧ Ext w w' ∧ ∃ v, look L' d = some v ∧ x.holds v w' ∧ x.newer v w
/-- Apart from those seen. -/
def sepF : PK → List Value → Value → Prop
  | .f _, seen, u => ∀ s ∈ seen, sepV u s ∧ sepV s u
  | _, _, _ => True
def seenF : PK → List Value → Value → List Value
  | .f _, seen, u => u :: seen
  | _, seen, _ => seen
/-- Values of which properties are known, taken out. -/
def relOut (w : World) (Q : Env → Prop) : List (Nat × PK) → List Value → Env → Prop
  | [], _, L => Q L
  | (t, x) :: r, seen, L => ∀ u, x.holds u w → sepF x seen u → relOut w Q r (seenF x seen u) ((t, u) :: L)

section
variable {P : Program} {N : Nat} {ops : Array Oper} {rest : List Oper} {ds : List Deferred} {L : Env} {w : World} {A B : Out} {X : Nat → Out} {Z : List PanicEntry → Out} {PR : List (Nat × PK)}

theorem noLets : ¬ LetsOut (lift N A B X Z) := fun ⟨_, _, h⟩ => h

theorem step1_of_reg {o : Oper} {d : Nat} {K : PK} {a : Act} {w1 : World} {L' : Env} (hd : o.dst = some d) (hs : ∀ cs b, o.op ≠ .select cs b) (hsz : a.tmps.size = N) (hdf : a.defers = ds)
    (hn : ∀ t v, look L' t = some v → t < N) (hv : ∀ t v, look L' t = some v → t ∈ o.looksAt ops → a.tmps[t]? = some v)
    (h : Reg P N ops .seq [o] ds L' w1 (Post ds d K w1) NoO (fun _ => NoO) NoZ) : Step1 P ops o a w1 K := by
  obtain ⟨a', ha', hl⟩ := fake (ops := ops) (o := o) (N := N) (ds := ds) (L := L') hsz hdf hn hv
  have h1 := h a' ha'
  have fin : ∀ (b : Act) (u : Value) (w2 : World), lift N (Post ds d K w1) NoO (fun _ => NoO) NoZ .normal (b.put o.dst u) w2 → b.defers = ds ∧ Ext w1 w2 ∧ K.holds u w2 ∧ K.newer u w1 := by
    rintro b u w2 ⟨ds2, L2, hk, rfl, he, v, hv2, hK⟩
    have := hk.val d v hv2
    have e : v = u := by
      rw [hd] at this
      simp only [Act.put] at this
      by_cases hlt : d < b.tmps.size
      · rw [Array.getElem?_setIfInBounds_self_of_lt hlt] at this; exact (Option.some.inj this).symm
      · rw [Array.getElem?_eq_none (by simpa using hlt)] at this; cases this
    subst e
    exact ⟨by have := hk.defers; rw [hd] at this; exact this, he, hK⟩
  have hwd := wanted_of_looks (ops := ops) hl
  simp only [wpList, hwd] at h1
  simp only [Step1]
  split
  · rename_i hwt
    rw [if_pos hwt] at h1
    replace h1 := h1.resolve_right fun hh => noLets hh.2
    unfold Oper.wp at h1 ⊢
    rw [execOp_congr o hs (eval_of_looks hl)] at h1
    generalize (execOp a.eval o).run P w1 = r at h1
    cases r with
    | ok n w2 =>
      cases n <;> simp only [Oper.upon] at h1 ⊢
      case value u => obtain ⟨_, he, hK⟩ := fin a' u w2 h1; exact ⟨u, rfl, he, hK⟩
      case skip => obtain ⟨_, he, hK⟩ := fin a' _ w2 h1; exact ⟨_, rfl, he, hK⟩
      case defer dd =>
        obtain ⟨he, _⟩ := fin _ _ w2 h1
        have h2 := ha'.defers
        simp only at he
        rw [h2] at he
        exact absurd (congrArg List.length he) (by simp)
      case enter f args =>
        refine Calls.mono h1 fun e w3 he => ?_
        cases e with
        | returned u => obtain ⟨_, he, hK⟩ := fin a' u w3 he; exact ⟨u, rfl, he, hK⟩
        | panicked c => obtain ⟨_, _, _, hz⟩ := he; exact hz.elim
        | outgrown => exact absurd he noLets
      case row row args => exact Rows.mono h1 fun u w3 he => by obtain ⟨_, he, hK⟩ := fin a' u w3 he; exact ⟨u, rfl, he, hK⟩
    | halt x w2 =>
      cases x <;> simp only [Oper.upon] at h1 ⊢
      case panic u => obtain ⟨_, _, _, hz⟩ := h1; exact hz
  · rename_i hwt
    rw [if_neg hwt] at h1
    exact (fin a' _ w1 h1).2.2.1

theorem relOut_use {w1 : World} {Q : Env → Prop} {a : Act} {S : Nat → Prop} {PE : List (Nat × PK)} (hk : KnowsP N ds PE a w1 S) : ∀ (rels : List (Nat × PK)) (seen : List Value) (L0 : Env),
    (∀ t v, look L0 t = some v → t < N) → (∀ t v, look L0 t = some v → S t → a.tmps[t]? = some v) → (∀ r ∈ rels, S r.1 ∧ lookP PE r.1 = some r.2) → (rels.map (·.1)).Nodup →
    (∀ s ∈ seen, ∃ t x, S t ∧ lookP PE t = some x ∧ x.isF = true ∧ a.tmps[t]? = some s ∧ t ∉ rels.map (·.1)) → relOut w1 Q rels seen L0 →
    ∃ L', (∀ t v, look L' t = some v → t < N) ∧ (∀ t v, look L' t = some v → S t → a.tmps[t]? = some v) ∧ Q L'
  | [], seen, L0, hn, hv, _, _, _, h => ⟨L0, hn, hv, h⟩
  | (t, x) :: r, seen, L0, hn, hv, hr, hnd, hseen, h => by
    obtain ⟨hS, hp⟩ := hr (t, x) (List.mem_cons_self ..)
    obtain ⟨u, hu, hK⟩ := hk.val t hS _ hp
    rw [List.map_cons, List.nodup_cons] at hnd
    have hsep : sepF x seen u := by
      cases x with
      | f K =>
        intro s hs
        obtain ⟨t', x', h1, h2, h3, h4, h5⟩ := hseen s hs
        have hne : t ≠ t' := fun e => h5 (by subst e; simp)
        exact ⟨hk.sep t t' _ x' hne hS h1 hp h2 rfl h3 u s hu h4, hk.sep t' t x' _ (Ne.symm hne) h1 hS h2 hp h3 rfl s u h4 hu⟩
      | _ => trivial
    refine relOut_use hk r (seenF x seen u) ((t, u) :: L0) (fun s v hs => ?_) (fun s v hs hSs => ?_) (fun q hq => hr q (List.mem_cons_of_mem _ hq)) hnd.2 (fun s hs => ?_) (h u hK hsep)
    · rw [look_cons] at hs
      split at hs
      · rename_i e
        subst e
        have : t < a.tmps.size := by
          rcases Nat.lt_or_ge t a.tmps.size with h | h
          · exact h
          · rw [Array.getElem?_eq_none h] at hu; cases hu
        rw [hk.size] at this; exact this
      · exact hn s v hs
    · rw [look_cons] at hs
      split at hs
      · rename_i e; subst e; cases hs; exact hu
      · exact hv s v hs hSs
    · have old : s ∈ seen → ∃ t x, S t ∧ lookP PE t = some x ∧ x.isF = true ∧ a.tmps[t]? = some s ∧ t ∉ r.map (·.1) := fun hs => by
        obtain ⟨t', x', h1, h2, h3, h4, h5⟩ := hseen s hs
        exact ⟨t', x', h1, h2, h3, h4, fun e => h5 (by rw [List.map_cons]; exact List.mem_cons_of_mem _ e)⟩
      cases x with
      | f K =>
        rcases List.mem_cons.1 hs with rfl | hs
        · exact ⟨t, _, hS, hp, rfl, hu, hnd.1⟩
        · exact old hs
      | c v => exact old hs
      | p K => exact old hs

/-- Which of the values that are known by a property an operation uses. -/
inductive RSub (L : Env) (PR : List (Nat × PK)) : List (Nat × PK) → Prop
  | nil : RSub L PR []
  | cons {t : Nat} {K : PK} {r : List (Nat × PK)} (h1 : lookP PR t = some K) (h2 : look L t = none) (h : RSub L PR r) : RSub L PR ((t, K) :: r)
theorem RSub.get {rels : List (Nat × PK)} (h : RSub L PR rels) : ∀ r ∈ rels, lookP PR r.1 = some r.2 ∧ look L r.1 = none := by
  induction h with
  | nil => intro r hr; cases hr
  | cons h1 h2 _ ih =>
    intro r hr
    rcases List.mem_cons.1 hr with rfl | hr
    · exact ⟨h1, h2⟩
    · exact ih r hr

/-- An operation whose value is known by a property: walked alone, in whatever world. -/
theorem Reg.rel {o : Oper} {d : Nat} (K : PK) (rels : List (Nat × PK)) (hd : o.dst = some d) (hN : Nat.blt d N = true) (hld : look L d = none)
    (hrel : RSub L PR rels) (hlk : (rels.all fun r => (o.looksAt ops).contains r.1) = true) (hnd : (rels.map (·.1)).Nodup)
    (h : ∀ w1, Ext w w1 → relOut w1 (fun L' => Reg P N ops .seq [o] ds L' w1 (Post ds d K w1) NoO (fun _ => NoO) NoZ) rels [] L)
    (hK : K.stays)
    (k : Reg P N ops (.flow ((d, K) :: PR)) rest ds L w A B X Z) : Reg P N ops (.flow PR) (o :: rest) ds L w A B X Z := by
  intro PE hf
  refine ⟨d, K, hd, hN, hK, fun hs a w1 he hk => ?_, k _ (hf.putP hld hK)⟩
  obtain ⟨L', hn, hv, hQ⟩ := relOut_use hk rels [] L hf.n (fun t v ht hS => by
    obtain ⟨y, hy, hh⟩ := hk.val t hS _ (hf.c t v ht)
    have hh : y = v := hh
    rw [hy, hh]) (fun r hr => ⟨by simpa using List.all_eq_true.1 hlk r hr, hf.p r.1 r.2 (hrel.get r hr).1 (hrel.get r hr).2⟩) hnd (fun _ hs => (by cases hs)) (h w1 he)
  exact step1_of_reg hd hs hk.size hk.defers hn hv hQ

/-- At the end. -/
theorem Reg.nilF (rels : List (Nat × PK)) (hrel : RSub L PR rels) (hnd : (rels.map (·.1)).Nodup) (h : ∀ w', Ext w w' → relOut w' (fun L' => A ds L' w') rels [] L) : Reg P N ops (.flow PR) [] ds L w A B X Z := by
  intro PE hf a w' he hk
  obtain ⟨L', hn, hv, hQ⟩ := relOut_use hk rels [] L hf.n (fun t v ht hS => by
    obtain ⟨y, hy, hh⟩ := hk.val t hS _ (hf.c t v ht)
    have hh : y = v := hh
    rw [hy, hh]) (fun r hr => ⟨trivial, hf.p r.1 r.2 (hrel.get r hr).1 (hrel.get r hr).2⟩) hnd (fun _ hs => (by cases hs)) (h w' he)
  exact ⟨ds, L', ⟨hk.size, hk.defers, fun t v ht => hv t v ht trivial⟩, hQ⟩
end
end Go.Sx
