/-
  That a walk in one order, with what is known of each value, serves every order that may be drawn.
-/
import Derived.Test.YtecmlmngcnionaaSxFlow
import Derived.Orders
namespace Go.Sx
open Go Go.RowKit

def waitsB (md : Region.Mode) (ops : Array Oper) (j i : Nat) : Bool :=
  match ops[j]? with
  | some oj => oj.after.any fun e => Region.binds md e && e.on == i
  | none => false
theorem waitsB_spec {md : Region.Mode} {ops : Array Oper} {j i : Nat} (h : waitsB md ops j i = true) : ∃ oj, ops[j]? = some oj ∧ ∃ e ∈ oj.after, Region.binds md e = true ∧ e.on = i := by
  unfold waitsB at h
  split at h
  · rename_i oj hj
    obtain ⟨e, he, hb⟩ := Array.any_eq_true'.1 h
    simp only [Bool.and_eq_true, beq_iff_eq] at hb
    exact ⟨oj, hj, e, he, hb.1, hb.2⟩
  · cases h
theorem getD_repl (m j : Nat) : (Array.replicate m false).getD j false = false := by
  rcases Nat.lt_or_ge j m with h | h
  · simp [h]
  · simp [h]

def pickL (ops : Array Oper) : List Nat → List Oper
  | [] => []
  | k :: r => match ops[k]? with | some o => o :: pickL ops r | none => pickL ops r
structure Rec where
  k : Nat
  o : Oper
  d : Nat
  x : PK
def envR : List Rec → List (Nat × PK) → List (Nat × PK)
  | [], PE => PE
  | r :: rs, PE => envR rs ((r.d, r.x) :: PE)

def condB (md : Region.Mode) (ops : Array Oper) (U F pre : List Nat) (k : Nat) : Bool :=
  match ops[k]? with
  | none => false
  | some o => o.after.all (fun e => !Region.binds md e || (U.contains e.on || pre.contains e.on)) &&
      (o.looksAt ops).all (fun t => F.all fun j => !((ops[j]?).bind (·.dst) == some t) || (bif pre.contains j then waitsB md ops k j else (j == k || waitsB md ops j k)))
def stepsB (md : Region.Mode) (ops : Array Oper) (U F : List Nat) : List Nat → List Nat → Bool
  | _, [] => true
  | pre, k :: r => condB md ops U F pre k && stepsB md ops U F (pre ++ [k]) r
def chainL (md : Region.Mode) (ops : Array Oper) : List Nat → Bool
  | a :: b :: r => waitsB md ops b a && chainL md ops (b :: r)
  | _ => true
def seqL (md : Region.Mode) (ops : Array Oper) : List Nat → Array Bool → Bool
  | [], listed => (Region.ready md ops listed).isEmpty
  | t :: ts, listed => (Region.ready md ops listed == [t]) && seqL md ops ts (listed.setIfInBounds t true)
def listedT (n : Nat) (T : List Nat) : Array Bool := ((List.range n).map fun j => !T.contains j).toArray
def distB (ops : Array Oper) (F : List Nat) : Bool := F.all fun j => F.all fun k => j == k || !((ops[j]?).bind (·.dst) == (ops[k]?).bind (·.dst))
def nodupB : List Nat → Bool
  | [] => true
  | k :: r => !r.contains k && nodupB r
def sinkL (md : Region.Mode) (ops : Array Oper) (F T : List Nat) : Bool :=
  match T with
  | [] => true
  | t0 :: _ => F.all fun i => waitsB md ops t0 i || F.any fun j => decide (i < j) && waitsB md ops j i
def flowB (md : Region.Mode) (ops : Array Oper) (U F T : List Nat) : Bool :=
  Region.noSelect ops && ((List.range ops.size).all fun j => U.contains j || F.contains j || T.contains j) &&
  (F.all fun j => decide (j < ops.size) && !U.contains j && !T.contains j) && (T.all fun j => decide (j < ops.size) && !U.contains j) && nodupB F && distB ops F && stepsB md ops U F [] F && chainL md ops T && sinkL md ops F T && seqL md ops T (listedT ops.size T)

theorem nodupB_spec : ∀ {l : List Nat}, nodupB l = true → l.Nodup
  | [], _ => List.nodup_nil
  | k :: r, h => by
    simp only [nodupB, Bool.and_eq_true, Bool.not_eq_true', List.contains_eq_mem, decide_eq_false_iff_not] at h
    exact List.nodup_cons.2 ⟨h.1, nodupB_spec h.2⟩
theorem stepsB_spec {md : Region.Mode} {ops : Array Oper} {U F : List Nat} : ∀ {l pre : List Nat}, stepsB md ops U F pre l = true → ∀ p k q, l = p ++ k :: q → condB md ops U F (pre ++ p) k = true
  | [], _, _, p, k, q, e => by cases p <;> cases e
  | x :: r, pre, h, p, k, q, e => by
    simp only [stepsB, Bool.and_eq_true] at h
    cases p with
    | nil => cases e; simpa using h.1
    | cons y p =>
      cases e
      have := stepsB_spec h.2 p k q rfl
      simpa using this
theorem lookP_envR : ∀ (rs : List Rec) (PE : List (Nat × PK)) (t : Nat) (x : PK), lookP (envR rs PE) t = some x → (∃ r ∈ rs, r.d = t ∧ r.x = x) ∨ (lookP PE t = some x ∧ ∀ r ∈ rs, r.d ≠ t)
  | [], PE, t, x, h => .inr ⟨h, fun _ hr => by cases hr⟩
  | r :: rs, PE, t, x, h => by
    rcases lookP_envR rs _ t x h with ⟨r', hr', h1, h2⟩ | ⟨h1, h2⟩
    · exact .inl ⟨r', List.mem_cons_of_mem _ hr', h1, h2⟩
    · rw [lookP_cons] at h1
      split at h1
      · rename_i e; cases h1; exact .inl ⟨r, List.mem_cons_self .., e, rfl⟩
      · rename_i e
        refine .inr ⟨h1, fun r' hr' => ?_⟩
        rcases List.mem_cons.1 hr' with rfl | hr'
        · exact e
        · exact h2 r' hr'

section
variable {P : Program} {N : Nat} {ops : Array Oper} {md : Region.Mode} {ds : List Deferred} {w0 : World}

theorem flow_recs {G : List (Nat × PK) → Prop} : ∀ (F : List Nat) (PE : List (Nat × PK)), (∀ k ∈ F, k < ops.size) → flowR P N ops ds w0 G (pickL ops F) PE →
    ∃ rs : List Rec, rs.map (·.k) = F ∧ (∀ r ∈ rs, ops[r.k]? = some r.o ∧ r.o.dst = some r.d ∧ r.d < N ∧ r.x.stays) ∧ (∀ pre r post, rs = pre ++ r :: post → Ob P N ops ds w0 (envR pre PE) r.o r.x) ∧ G (envR rs PE)
  | [], PE, _, h => ⟨[], rfl, fun _ hr => (by cases hr), fun pre _ _ e => (by cases pre <;> cases e), h⟩
  | k :: F, PE, hk, h => by
    have hlt := hk k (List.mem_cons_self ..)
    obtain ⟨o, ho⟩ : ∃ o, ops[k]? = some o := ⟨ops[k], by simp [hlt]⟩
    simp only [pickL, ho] at h
    obtain ⟨d, x, h1, h2, h3, h4, h5⟩ := h
    obtain ⟨rs, e1, e2, e3, e4⟩ := flow_recs F _ (fun j hj => hk j (List.mem_cons_of_mem _ hj)) h5
    refine ⟨⟨k, o, d, x⟩ :: rs, by simp [e1], fun r hr => ?_, fun pre r post e => ?_, e4⟩
    · rcases List.mem_cons.1 hr with rfl | hr
      · exact ⟨ho, h1, by simpa [Nat.blt_eq] using h2, h3⟩
      · exact e2 r hr
    · cases pre with
      | nil => cases e; exact h4
      | cons q pre => cases e; exact e3 pre r post rfl

theorem wp_weaken {o : Oper} {a : Act} {w : World} {K K' : Act → World → Prop} {Q : Exit → Act → World → Prop} (h : ∀ a w, K a w → K' a w) (hh : o.wp P a w K (fun _ _ _ => False)) : o.wp P a w K' Q := by
  have no : ¬ LetsOut (fun _ _ _ => False) := fun ⟨_, _, h⟩ => h
  unfold Oper.wp at *
  generalize (execOp a.eval o).run P w = r at *
  cases r with
  | ok n w' =>
    cases n <;> simp only [Oper.upon] at hh ⊢ <;>
      first
        | exact h _ _ hh
        | exact Calls.mono hh (fun e w'' he => by cases e <;> first | exact h _ _ he | exact he.elim | exact absurd he no)
        | exact Rows.mono hh (fun _ _ he => h _ _ he)
  | halt x w' => cases x <;> simp only [Oper.upon] at hh ⊢

structure Inv (N : Nat) (ops : Array Oper) (md : Region.Mode) (ds : List Deferred) (w0 : World) (U T : List Nat) (rs : List Rec) (PE0 : List (Nat × PK)) (listed : Array Bool) (a : Act) (w : World) : Prop where
  size : a.tmps.size = N
  defers : a.defers = ds
  ext : Ext w0 w
  lsz : listed.size = ops.size
  recs : ∀ r ∈ rs, listed.getD r.k false = true → ∃ u, a.tmps[r.d]? = some u ∧ r.x.holds u w
  base : ∀ t x, lookP PE0 t = some x → (∀ r ∈ rs, listed.getD r.k false = true → r.d ≠ t) → ∃ u, a.tmps[t]? = some u ∧ x.holds u w
  closed : ∀ j oj, ops[j]? = some oj → listed.getD j false = true → ∀ e ∈ oj.after, Region.binds md e = true → listed.getD e.on false = true
  sep : ∀ r ∈ rs, ∀ r' ∈ rs, listed.getD r.k false = true → listed.getD r'.k false = true → r.d ≠ r'.d → r.x.isF = true → r'.x.isF = true → ∀ u u', a.tmps[r.d]? = some u → a.tmps[r'.d]? = some u' → sepV u u'
  tail : ∀ t ∈ T, listed.getD t false = false
  us : ∀ u ∈ U, listed.getD u false = true

theorem seqL_sound {Q : Exit → Act → World → Prop} : ∀ (T : List Nat) (listed : Array Bool) (a : Act) (w : World), (∀ k ∈ T, k < ops.size) → seqL md ops T listed = true → wpList P ops Q (pickL ops T) a w → wpAny P md ops Q T.length listed a w
  | [], _, _, _, _, hB, h => ⟨by simpa [seqL] using hB, h⟩
  | k :: T, listed, a, w, hk, hB, h => by
    have hlt := hk k (List.mem_cons_self ..)
    obtain ⟨o, ho⟩ : ∃ o, ops[k]? = some o := ⟨ops[k], by simp [hlt]⟩
    simp only [pickL, ho] at h
    simp only [seqL, Bool.and_eq_true, beq_iff_eq] at hB
    refine ⟨fun h1 => (by rw [hB.1] at h1; cases h1), fun i hi => ?_⟩
    rw [hB.1] at hi
    have hik : i = k := by simpa using hi
    subst hik
    have hw : wpOp P ops Q i (wpList P ops Q (pickL ops T)) a w := by unfold wpOp; simp only [ho]; exact h
    exact wpOp_mono (fun a' w' h' => seqL_sound T _ a' w' (fun j hj => hk j (List.mem_cons_of_mem _ hj)) hB.2 h') hw

theorem getD_of {listed : Array Bool} {i : Nat} (hi : i < listed.size) (x y : Bool) : listed.getD i x = listed.getD i y := by simp [hi]

theorem flow_phase {U F T : List Nat} {rs : List Rec} {PE0 : List (Nat × PK)} {Q : Exit → Act → World → Prop} (hB : flowB md ops U F T = true)
    (hrs : rs.map (·.k) = F) (hr : ∀ r ∈ rs, ops[r.k]? = some r.o ∧ r.o.dst = some r.d ∧ r.d < N ∧ r.x.stays) (hst : ∀ t x, lookP PE0 t = some x → x.stays) (hno : ∀ t x, lookP PE0 t = some x → x.isF = false)
    (hob : ∀ pre r post, rs = pre ++ r :: post → Ob P N ops ds w0 (envR pre PE0) r.o r.x)
    (hfin : ∀ a w, Ext w0 w → KnowsP N ds (envR rs PE0) a w (fun _ => True) → wpAny P md ops Q T.length (listedT ops.size T) a w) :
    ∀ (n : Nat) (rem : List Nat) (listed : Array Bool) (a : Act) (w : World), rem.length = n → rem.Nodup → (∀ k, k ∈ rem ↔ k ∈ F ∧ listed.getD k false = false) → Inv N ops md ds w0 U T rs PE0 listed a w →
      wpAny P md ops Q (n + T.length) listed a w := by
  simp only [flowB, Bool.and_eq_true] at hB
  obtain ⟨⟨⟨⟨⟨⟨⟨⟨⟨hsel, hall⟩, hFb⟩, hTb⟩, hnd⟩, hdi⟩, hsteps⟩, hchain⟩, hsink⟩, hseq⟩ := hB
  have hFb' : ∀ j ∈ F, j < ops.size ∧ j ∉ U ∧ j ∉ T := fun j hj => by
    have := List.all_eq_true.1 hFb j hj
    simp only [Bool.and_eq_true, decide_eq_true_eq, Bool.not_eq_true', List.contains_eq_mem, decide_eq_false_iff_not] at this
    exact ⟨this.1.1, this.1.2, this.2⟩
  have hTb' : ∀ j ∈ T, j < ops.size ∧ j ∉ U := fun j hj => by
    have := List.all_eq_true.1 hTb j hj
    simpa using this
  have hall' : ∀ j, j < ops.size → j ∈ U ∨ j ∈ F ∨ j ∈ T := fun j hj => by
    have := List.all_eq_true.1 hall j (List.mem_range.2 hj)
    simp only [Bool.or_eq_true, List.contains_eq_mem, decide_eq_true_eq] at this
    rcases this with (h | h) | h
    · exact .inl h
    · exact .inr (.inl h)
    · exact .inr (.inr h)
  have hkF : ∀ r ∈ rs, r.k ∈ F := fun r h => by rw [← hrs]; exact List.mem_map_of_mem h
  have hFk : ∀ k ∈ F, ∃ r ∈ rs, r.k = k := fun k h => by rw [← hrs] at h; simpa using h
  have hdi' : ∀ r ∈ rs, ∀ r' ∈ rs, r.k ≠ r'.k → r.d ≠ r'.d := fun r h r' h' hne he => by
    have := List.all_eq_true.1 (List.all_eq_true.1 hdi r.k (hkF r h)) r'.k (hkF r' h')
    simp only [(hr r h).1, (hr r' h').1, Option.bind_some, (hr r h).2.1, (hr r' h').2.1, he, BEq.rfl, Bool.not_true, Bool.or_false, beq_iff_eq] at this
    exact hne this
  have hnd' : (rs.map (·.k)).Nodup := by rw [hrs]; exact nodupB_spec hnd
  have huniq : ∀ r ∈ rs, ∀ r' ∈ rs, r.k = r'.k → r = r' := fun r h r' h' he => by
    obtain ⟨i, hi, rfl⟩ := List.mem_iff_getElem.1 h
    obtain ⟨j, hj, rfl⟩ := List.mem_iff_getElem.1 h'
    have : i = j := by
      have h1 := List.getElem_inj (xs := rs.map (·.k)) (i := i) (j := j) (h₀ := by simpa using hi) (h₁ := by simpa using hj) hnd'
      exact h1.1 (by simpa using he)
    subst this; rfl
  have hcond : ∀ pre r post, rs = pre ++ r :: post → condB md ops U F (pre.map (·.k)) r.k = true := fun pre r post e => by
    have := stepsB_spec hsteps (pre.map (·.k)) r.k (post.map (·.k)) (by rw [← hrs, e]; simp)
    simpa using this
  intro n
  induction n with
  | zero =>
    intro rem listed a w hl _ hrem inv
    have he : rem = [] := List.eq_nil_of_length_eq_zero hl
    have done : ∀ k ∈ F, listed.getD k false = true := fun k hk => by
      cases hb : listed.getD k false with
      | true => rfl
      | false => have := (hrem k).2 ⟨hk, hb⟩; rw [he] at this; cases this
    have hlt : listed = listedT ops.size T := by
      refine Array.ext (by simp [listedT, inv.lsz]) fun j h1 h2 => ?_
      have hj : j < ops.size := by rw [← inv.lsz]; exact h1
      have e1 : listed.getD j false = listed[j] := by simp [h1]
      simp only [listedT, List.getElem_toArray, List.getElem_map, List.getElem_range]
      rw [← e1]
      by_cases hT : j ∈ T
      · rw [inv.tail j hT]; simp [hT]
      · have : listed.getD j false = true := by
          rcases hall' j hj with h | h | h
          · exact inv.us j h
          · exact done j h
          · exact absurd h hT
        rw [this]; simp [hT]
    rw [Nat.zero_add, hlt]
    refine hfin a w inv.ext ⟨inv.size, inv.defers, fun t _ x hx => ?_, fun t t' x x' hne _ _ hx hx' hf hf' u u' hu hu' => ?_⟩
    · rcases lookP_envR rs PE0 t x hx with ⟨r, h, rfl, rfl⟩ | ⟨h1, h2⟩
      · exact inv.recs r h (done _ (hkF r h))
      · exact inv.base t x h1 fun r h _ => h2 r h
    · rcases lookP_envR rs PE0 t x hx with ⟨r, h, rfl, rfl⟩ | ⟨h1, h2⟩
      · rcases lookP_envR rs PE0 t' x' hx' with ⟨r', h', rfl, rfl⟩ | ⟨h1', h2'⟩
        · exact inv.sep r h r' h' (done _ (hkF r h)) (done _ (hkF r' h')) hne hf hf' u u' hu hu'
        · rw [hno _ _ h1'] at hf'; cases hf'
      · rw [hno _ _ h1] at hf; cases hf
  | succ n ih =>
    intro rem listed a w hl hrn hrem inv
    have hgd : ∀ i, i < ops.size → listed.getD i true = listed.getD i false := fun i hi => getD_of (by rw [inv.lsz]; exact hi) _ _
    have hne : rem ≠ [] := fun h => by rw [h] at hl; cases hl
    obtain ⟨k0, hk0⟩ := List.exists_mem_of_ne_nil rem hne
    rw [show n + 1 + T.length = (n + T.length) + 1 by omega]
    refine ⟨fun h0 => ?_, fun i hi => ?_⟩
    · exfalso
      obtain ⟨r0, hr0, e0⟩ := hFk k0 ((hrem k0).1 hk0).1
      have key : ∀ (l pre : List Rec), rs = pre ++ l → (∀ r ∈ pre, listed.getD r.k false = true) → (∃ r ∈ l, listed.getD r.k false = false) → False := by
        intro l
        induction l with
        | nil => rintro _ _ _ ⟨_, h, _⟩; cases h
        | cons r l ihl =>
          intro pre he hpre hex
          cases hb : listed.getD r.k false with
          | true =>
            refine ihl (pre ++ [r]) (by simp [he]) (fun q hq => ?_) ?_
            · rcases List.mem_append.1 hq with h | h
              · exact hpre q h
              · have : q = r := by simpa using h
                subst this; exact hb
            · obtain ⟨q, hq, hq'⟩ := hex
              rcases List.mem_cons.1 hq with rfl | h
              · rw [hb] at hq'; cases hq'
              · exact ⟨q, h, hq'⟩
          | false =>
            have hrm : r ∈ rs := by rw [he]; simp
            have hc := hcond pre r l he
            simp only [condB, (hr r hrm).1, Bool.and_eq_true] at hc
            have hs := (hFb' _ (hkF r hrm)).1
            have : r.k ∈ Region.ready md ops listed := mem_ready.2 ⟨by rw [hgd _ hs]; exact hb, r.o, (hr r hrm).1, fun e he' hbd => by
              have := Array.all_eq_true_iff_forall_mem.1 hc.1 e he'
              simp only [hbd, Bool.not_true, Bool.false_or, Bool.or_eq_true, List.contains_eq_mem, decide_eq_true_eq] at this
              rcases this with h | h
              · exact inv.us _ h
              · obtain ⟨q, hq, hqe⟩ := List.mem_map.1 h
                rw [← hqe]; exact hpre q hq⟩
            rw [h0] at this; cases this
      exact key rs [] rfl (fun _ h => by cases h) ⟨r0, hr0, by rw [e0]; exact ((hrem k0).1 hk0).2⟩
    · obtain ⟨hi0, oi, hoi, hiall⟩ := mem_ready.1 hi
      have his : i < ops.size := (Array.getElem?_eq_some_iff.1 hoi).1
      rw [hgd i his] at hi0
      have waits_done : ∀ j, waitsB md ops i j = true → listed.getD j false = true := fun j hj => by
        obtain ⟨o', ho', e, he, hbd, rfl⟩ := waitsB_spec hj
        rw [hoi] at ho'; cases ho'
        exact hiall e he hbd
      have hiF : i ∈ F := by
        rcases hall' i his with h | h | h
        · rw [inv.us i h] at hi0; cases hi0
        · exact h
        · exfalso
          cases T with
          | nil => cases h
          | cons t0 ts =>
            by_cases ht0 : i = t0
            · subst ht0
              have hdone : ∀ m, ∀ j ∈ F, ops.size - j ≤ m → listed.getD j false = true := by
                intro m
                induction m with
                | zero => intro j hj hm; have := (hFb' j hj).1; omega
                | succ m ihm =>
                  intro j hj hm
                  have := List.all_eq_true.1 hsink j hj
                  simp only [Bool.or_eq_true, List.any_eq_true, Bool.and_eq_true, decide_eq_true_eq] at this
                  rcases this with h' | ⟨j', hj', hlt, hwt⟩
                  · exact waits_done j h'
                  · have hd' := ihm j' hj' (by have := (hFb' j' hj').1; omega)
                    obtain ⟨o', ho', e, he, hbd, rfl⟩ := waitsB_spec hwt
                    exact inv.closed j' o' ho' hd' e he hbd
              have h1 := hdone ops.size k0 ((hrem k0).1 hk0).1 (by omega)
              rw [((hrem k0).1 hk0).2] at h1; cases h1
            · have key : ∀ (l : List Nat), chainL md ops l = true → (∀ t ∈ l, listed.getD t false = false) → ∀ h : l ≠ [], i ∈ l → i ≠ l.head h → False := by
                intro l
                induction l with
                | nil => intro _ _ h; exact absurd rfl h
                | cons x l ihl =>
                  intro hc hu _ him hne'
                  cases l with
                  | nil => exact hne' (by simpa using him)
                  | cons y l =>
                    simp only [chainL, Bool.and_eq_true] at hc
                    by_cases hiy : i = y
                    · subst hiy
                      have := waits_done x hc.1
                      rw [hu x (by simp)] at this; cases this
                    · refine ihl hc.2 (fun t ht => hu t (List.mem_cons_of_mem _ ht)) (by simp) ?_ hiy
                      rcases List.mem_cons.1 him with h' | h'
                      · exact absurd h' hne'
                      · exact h'
              exact key (t0 :: ts) hchain inv.tail (by simp) h ht0
      obtain ⟨r, hrm, rfl⟩ := hFk i hiF
      obtain ⟨h1, h2, h3, h4⟩ := hr r hrm
      rw [hoi] at h1; cases h1
      obtain ⟨pre, post, he⟩ := List.append_of_mem hrm
      have hc := hcond pre r post he
      simp only [condB, hoi, Bool.and_eq_true] at hc
      have hkn : KnowsP N ds (envR pre PE0) a w (fun t => t ∈ r.o.looksAt ops) := by
        have donePre : ∀ t ∈ r.o.looksAt ops, ∀ q ∈ pre, q.d = t → listed.getD q.k false = true := fun t ht q hqm hqd => by
          have hqr : q ∈ rs := by rw [he]; exact List.mem_append_left _ hqm
          have := List.all_eq_true.1 (List.all_eq_true.1 hc.2 t ht) q.k (hkF q hqr)
          simp only [(hr q hqr).1, (hr q hqr).2.1, hqd, Option.bind_some, BEq.rfl, Bool.not_true, Bool.false_or] at this
          rw [show (pre.map (·.k)).contains q.k = true by simp only [List.contains_eq_mem, decide_eq_true_eq]; exact List.mem_map_of_mem hqm] at this
          simp only [cond_true] at this
          exact waits_done _ this
        refine ⟨inv.size, inv.defers, fun t ht x hx => ?_, fun t t' x x' hne ht ht' hx hx' hf hf' u u' hu hu' => ?_⟩
        rotate_left
        · rcases lookP_envR pre PE0 t x hx with ⟨q, hqm, rfl, rfl⟩ | ⟨h5, _⟩
          · rcases lookP_envR pre PE0 t' x' hx' with ⟨q', hqm', rfl, rfl⟩ | ⟨h5', _⟩
            · exact inv.sep q (by rw [he]; exact List.mem_append_left _ hqm) q' (by rw [he]; exact List.mem_append_left _ hqm') (donePre _ ht q hqm rfl) (donePre _ ht' q' hqm' rfl) hne hf hf' u u' hu hu'
            · rw [hno _ _ h5'] at hf'; cases hf'
          · rw [hno _ _ h5] at hf; cases hf
        have hct := List.all_eq_true.1 hc.2 t ht
        have hq : ∀ q ∈ rs, q.d = t → (bif (pre.map (·.k)).contains q.k then waitsB md ops r.k q.k else (q.k == r.k || waitsB md ops q.k r.k)) = true := fun q hq hqt => by
          have := List.all_eq_true.1 hct q.k (hkF q hq)
          simpa [(hr q hq).1, (hr q hq).2.1, hqt] using this
        rcases lookP_envR pre PE0 t x hx with ⟨q, hqm, hqd, rfl⟩ | ⟨h5, h6⟩
        · have hqr : q ∈ rs := by rw [he]; exact List.mem_append_left _ hqm
          have := hq q hqr hqd
          rw [show (pre.map (·.k)).contains q.k = true by simp only [List.contains_eq_mem, decide_eq_true_eq]; exact List.mem_map_of_mem hqm] at this
          simp only [cond_true] at this
          rw [← hqd]
          exact inv.recs q hqr (waits_done _ this)
        · refine inv.base t x h5 fun q hqr hqdn hqd => ?_
          have := hq q hqr hqd
          by_cases hqp : q ∈ pre
          · exact h6 q hqp hqd
          · have hnc : (pre.map (·.k)).contains q.k = false := by
              simp only [List.contains_eq_mem, decide_eq_false_iff_not]
              intro hm
              obtain ⟨q', hq', hqe⟩ := List.mem_map.1 hm
              have := huniq q' (by rw [he]; exact List.mem_append_left _ hq') q hqr hqe
              subst this; exact hqp hq'
            rw [hnc] at this
            simp only [cond_false, Bool.or_eq_true, beq_iff_eq] at this
            rcases this with h7 | h7
            · rw [h7, hi0] at hqdn; cases hqdn
            · obtain ⟨o', ho', e, hee, hbd, heo⟩ := waitsB_spec h7
              have := inv.closed q.k o' ho' hqdn e hee hbd
              rw [heo, hi0] at this; cases this
      have hS := hob pre r post he (Region.noSelect_spec hsel r.k r.o · · hoi) a w inv.ext hkn
      have fin : ∀ v w2, Ext w w2 → r.x.holds v w2 → r.x.newer v w → wpAny P md ops Q (n + T.length) (listed.setIfInBounds r.k true) (a.put r.o.dst v) w2 := by
        intro v w2 hx hv hnw
        have hlsz : r.k < listed.size := by rw [inv.lsz]; exact his
        have hset : ∀ j, j ≠ r.k → (listed.setIfInBounds r.k true).getD j false = listed.getD j false := fun j hj => getD_set_ne false (Ne.symm hj)
        have hself : (listed.setIfInBounds r.k true).getD r.k false = true := by simp [hlsz]
        have hput : ∀ t, t ≠ r.d → (a.put r.o.dst v).tmps[t]? = a.tmps[t]? := fun t ht => by
          rw [h2]; simp only [Act.put]; rw [Array.getElem?_setIfInBounds_ne (Ne.symm ht)]
        refine ih (rem.erase r.k) _ _ _ (by rw [List.length_erase_of_mem ((hrem _).2 ⟨hiF, hi0⟩), hl]; rfl) (hrn.erase _) (fun k => ?_) ⟨?_, ?_, inv.ext.trans hx, by simp [inv.lsz], fun q hq hd => ?_, fun t x hx' hd => ?_, fun j oj hj hd e hee hbd => ?_, fun q hq q' hq' hd hd' hne hf hf' u u' hu hu' => ?_, fun t ht => ?_, fun u hu => ?_⟩
        · rw [hrn.mem_erase_iff, hrem]
          constructor
          · rintro ⟨h5, h6, h7⟩; exact ⟨h6, by rw [hset k h5]; exact h7⟩
          · rintro ⟨h5, h6⟩
            by_cases hk : k = r.k
            · subst hk; rw [hself] at h6; cases h6
            · exact ⟨hk, h5, by rw [hset k hk] at h6; exact h6⟩
        · rw [h2]; simp [Act.put, inv.size]
        · rw [h2]; exact inv.defers
        · by_cases hk : q.k = r.k
          · have := huniq q hq r hrm hk
            subst this
            exact ⟨v, by rw [h2]; simp [Act.put, inv.size, h3], hv⟩
          · rw [hset _ hk] at hd
            obtain ⟨u, hu, hh⟩ := inv.recs q hq hd
            exact ⟨u, by rw [hput _ (hdi' q hq r hrm hk)]; exact hu, hh.ext (hr q hq).2.2.2 hx⟩
        · have hrt : r.d ≠ t := hd r hrm hself
          obtain ⟨u, hu, hh⟩ := inv.base t x hx' fun q hq hqd => by
            by_cases hk : q.k = r.k
            · have := huniq q hq r hrm hk
              subst this; exact hrt
            · exact hd q hq (by rw [hset _ hk]; exact hqd)
          exact ⟨u, by rw [hput _ (Ne.symm hrt)]; exact hu, hh.ext (hst t x hx') hx⟩
        · by_cases hk : j = r.k
          · subst hk
            rw [hoi] at hj; cases hj
            exact getD_set_true (hiall e hee hbd)
          · rw [hset _ hk] at hd
            exact getD_set_true (inv.closed j oj hj hd e hee hbd)
        · have hself2 : (a.put r.o.dst v).tmps[r.d]? = some v := by rw [h2]; simp [Act.put, inv.size, h3]
          have old : ∀ q ∈ rs, q.k ≠ r.k → listed.getD q.k false = true → q.x.isF = true → ∀ u, (a.put r.o.dst v).tmps[q.d]? = some u → ∀ b ∈ blks u, b < w.heap.size := fun q hq hk hd hf u hu b hb => by
            rw [hput _ (hdi' q hq r hrm hk)] at hu
            obtain ⟨y, hy, hh⟩ := inv.recs q hq hd
            rw [hu] at hy; cases hy
            cases hx2 : q.x with
            | f K => rw [hx2] at hh; exact hh.2 b hb
            | c _ => rw [hx2] at hf; cases hf
            | p _ => rw [hx2] at hf; cases hf
          have new : r.x.isF = true → ∀ b ∈ blks v, w.heap.size ≤ b := fun hf b hb => by
            cases hx2 : r.x with
            | f K => rw [hx2] at hnw; exact hnw b hb
            | c _ => rw [hx2] at hf; cases hf
            | p _ => rw [hx2] at hf; cases hf
          by_cases hk : q.k = r.k
          · have := huniq q hq r hrm hk
            subst this
            rw [hself2] at hu; cases hu
            have hk' : q'.k ≠ q.k := fun e => hne (by rw [huniq q' hq' q hq e])
            rw [hset _ hk'] at hd'
            intro b hb hb'
            have h7 := old q' hq' hk' hd' hf' u' hu' b hb'
            have h8 := new hf b hb
            omega
          · by_cases hk' : q'.k = r.k
            · have := huniq q' hq' r hrm hk'
              subst this
              rw [hself2] at hu'; cases hu'
              rw [hset _ hk] at hd
              intro b hb hb'
              have h7 := old q hq hk hd hf u hu b hb
              have h8 := new hf' b hb'
              omega
            · rw [hset _ hk] at hd
              rw [hset _ hk'] at hd'
              rw [hput _ (hdi' q hq r hrm hk)] at hu
              rw [hput _ (hdi' q' hq' r hrm hk')] at hu'
              exact inv.sep q hq q' hq' hd hd' hne hf hf' u u' hu hu'
        · have : t ≠ r.k := fun h => (hFb' _ hiF).2.2 (h ▸ ht)
          rw [hset _ this]; exact inv.tail t ht
        · exact getD_set_true (inv.us u hu)
      unfold wpOp
      simp only [hoi]
      simp only [Step1] at hS
      split
      · rename_i hwt
        rw [if_pos hwt] at hS
        exact .inl (wp_weaken (fun a2 w2 ⟨v, e, hx, hv, hnw⟩ => by subst e; exact fin v w2 hx hv hnw) hS)
      · rename_i hwt
        rw [if_neg hwt] at hS
        exact fin undef w (Kp.refl _ _) hS (by cases r.x <;> first | trivial | exact fun b hb => (by cases hb))

/-- A region that draws its order: F in whatever order, then T one by one. -/
theorem cw_regD {id : Nat} {l : List Oper} {L : Env} {w : World} {A B : Out} {X : Nat → Out} {Z : List PanicEntry → Out} (F T : List Nat) (hm : P.follows .mixedOrders = true) (hB : flowB .any l.toArray [] F T = true)
    (hC : Nat.beq (F.length + T.length) l.length = true) (hN : (L.all fun p => Nat.blt p.1 N) = true)
    (h : Reg P N l.toArray (.flow []) (pickL l.toArray F) ds L w (fun ds' L' w' => Reg P N l.toArray .seq (pickL l.toArray T) ds' L' w' A NoO (fun _ => NoO) NoZ) NoO (fun _ => NoO) NoZ) :
    CW P N (.region id l.toArray true) ds L w A B X Z := by
  intro a ha
  have hB0 := hB
  simp only [flowB, Bool.and_eq_true] at hB
  obtain ⟨⟨⟨⟨⟨⟨⟨⟨⟨hsel, hall⟩, hFb⟩, hTb⟩, hnd⟩, hdi⟩, hsteps⟩, hchain⟩, hsink⟩, hseq⟩ := hB
  have hlkc : ∀ (L : Env) t, lookP (L.map fun p => (p.1, PK.c p.2)) t = (look L t).map PK.c := by
    intro L t
    induction L with
    | nil => rfl
    | cons p L ih => obtain ⟨k, v⟩ := p; rw [List.map_cons, lookP_cons, look_cons]; split <;> simp [*]
  have hmem : ∀ (L : Env) t v, look L t = some v → ∃ p ∈ L, p.1 = t := by
    intro L t v
    induction L with
    | nil => intro h; cases h
    | cons p L ih =>
      obtain ⟨k, u⟩ := p
      rw [look_cons]
      split
      · rename_i e; intro _; exact ⟨(k, u), List.mem_cons_self .., e⟩
      · intro h; obtain ⟨q, hq, e⟩ := ih h; exact ⟨q, List.mem_cons_of_mem _ hq, e⟩
  have hfit : Fits N (L.map fun p => (p.1, PK.c p.2)) L [] := by
    refine ⟨fun t v ht => by rw [hlkc, ht]; rfl, fun t v ht => ?_, fun t K hK => (by cases hK), fun t x hx => ?_⟩
    · obtain ⟨p, hp, rfl⟩ := hmem L t v ht
      have := List.all_eq_true.1 hN p hp
      simpa [Nat.blt_eq] using this
    · rw [hlkc] at hx
      cases hl : look L t with
      | none => rw [hl] at hx; cases hx
      | some v => rw [hl] at hx; cases hx; trivial
  have hFlt : ∀ k ∈ F, k < l.toArray.size := fun k hk => by
    have := List.all_eq_true.1 hFb k hk
    simp only [Bool.and_eq_true, decide_eq_true_eq] at this
    exact this.1.1
  have hTlt : ∀ k ∈ T, k < l.toArray.size := fun k hk => by
    have := List.all_eq_true.1 hTb k hk
    simp only [Bool.and_eq_true, decide_eq_true_eq] at this
    exact this.1
  obtain ⟨rs, e1, e2, e3, e4⟩ := flow_recs F _ hFlt (h _ hfit)
  have key : wpAny P .any l.toArray (lift N A NoO (fun _ => NoO) NoZ) l.toArray.size (Array.replicate l.toArray.size false) a { w with drawn := w.drawn + 1 } := by
    have hph := flow_phase (Q := lift N A NoO (fun _ => NoO) NoZ) hB0 e1 e2 hfit.s (fun t x hx => (by
      rw [hlkc] at hx
      cases hl : look L t with
      | none => rw [hl] at hx; cases hx
      | some v => rw [hl] at hx; cases hx; rfl)) e3 (fun a' w' he hk => by
      obtain ⟨ds2, L2, hk2, hR⟩ := e4 a' w' he hk
      exact seqL_sound T _ a' w' hTlt hseq (hR a' hk2)) F.length F (Array.replicate l.toArray.size false) a { w with drawn := w.drawn + 1 } rfl (nodupB_spec hnd) (fun k => ⟨fun hk => ⟨hk, getD_repl _ _⟩, fun hk => hk.1⟩)
      ⟨ha.size, ha.defers, Kp.drew _ _, by simp, fun r _ hd => (by rw [getD_repl] at hd; cases hd), fun t x hx _ => by
        rw [hlkc] at hx
        cases hl : look L t with
        | none => rw [hl] at hx; cases hx
        | some v => rw [hl] at hx; cases hx; exact ⟨v, ha.val t v hl, rfl⟩, fun j _ _ hd => (by rw [getD_repl] at hd; cases hd), fun r _ _ _ hd => (by rw [getD_repl] at hd; cases hd), fun t _ => getD_repl _ _, fun u hu => (by cases hu)⟩
    have hcount : F.length + T.length = l.toArray.size := by simpa using Nat.eq_of_beq_eq_true hC
    rw [hcount] at hph
    exact hph
  refine wp_mono (wp_region_any hm key) fun e a' w' hq => ?_
  cases e with
  | normal => exact hq
  | ret => obtain ⟨_, _, _, hz⟩ := hq; exact hz.elim
  | exit i => obtain ⟨_, _, _, hz⟩ := hq; exact hz.elim
  | panic c => obtain ⟨_, _, _, hz⟩ := hq; exact hz.elim
  | goto l => exact hq.elim
  | outgrown => exact hq.elim
end
end Go.Sx
