/-
  Regions that draw their order and that lay out new variables, each written once ('c, d := a[i], b[i]').
-/
import Derived.Test.YtecmlmngcnionaaSxSound
import Derived.Test.YtecmlmngcnionaaSxOwn
namespace Go.Sx
open Go Go.RowKit

theorem PK.pure.isF {x : PK} (h : x.pure) : x.isF = false := by
  cases x with
  | f K => exact h.elim
  | _ => rfl
theorem PK.pure.any {x : PK} {v : Value} {w w' : World} (h : x.pure) (hh : x.holds v w) : x.holds v w' := by
  cases x with
  | c u => exact hh
  | p K => exact h v w w' hh
  | f K => exact h.elim
theorem PK.pure.stays {x : PK} (h : x.pure) : x.stays := by
  cases x with
  | c u => trivial
  | p K => exact fun v w w' _ hh => h v w w' hh
  | f K => exact h.elim

structure RowRec where
  kA : Nat
  d : Nat
  e : TypeId
  cs0 : List Value
  kS : Nat
  cs1 : List Value

def rowsB (md : Region.Mode) (ops : Array Oper) (F : List Nat) (R : List RowRec) : Bool :=
  Region.noSelect ops && ((List.range ops.size).all fun j => F.contains j || R.any fun q => q.kA == j || q.kS == j) &&
  (F.all fun j => decide (j < ops.size) && R.all fun q => !(q.kA == j) && !(q.kS == j) && !((ops[j]?).bind (·.dst) == some q.d)) &&
  nodupB (F ++ R.map (·.kA) ++ R.map (·.kS)) && nodupB (R.map (·.d)) && distB ops F && stepsB md ops [] F [] F &&
  (R.all fun q => decide (q.kA < ops.size) && decide (q.kS < ops.size) && waitsB md ops q.kS q.kA &&
    (match ops[q.kS]? with | none => false | some o => (o.looksAt ops).all fun t => F.all fun j => !((ops[j]?).bind (·.dst) == some t) || waitsB md ops q.kS j) &&
    (match ops[q.kS]? with | none => false | some o => o.after.all fun e => !Region.binds md e || decide (e.on < q.kS)) &&
    (match ops[q.kA]? with | none => false | some o => o.after.all fun e => !Region.binds md e || decide (e.on < q.kA))) &&
  (F.all fun k => match ops[k]? with | none => false | some o => o.after.all fun e => !Region.binds md e || decide (e.on < k))

section
variable {P : Program} {N : Nat} {ops : Array Oper} {md : Region.Mode} {ds : List Deferred} {w0 : World}

structure InvR (N : Nat) (ops : Array Oper) (md : Region.Mode) (ds : List Deferred) (w0 : World) (rs : List Rec) (R : List RowRec) (PE0 : List (Nat × PK)) (listed : Array Bool) (a : Act) (w : World) : Prop where
  size : a.tmps.size = N
  defers : a.defers = ds
  ext : Ext w0 w
  lsz : listed.size = ops.size
  recs : ∀ r ∈ rs, listed.getD r.k false = true → ∃ u, a.tmps[r.d]? = some u ∧ r.x.holds u w
  base : ∀ t x, lookP PE0 t = some x → (∀ r ∈ rs, listed.getD r.k false = true → r.d ≠ t) → (∀ q ∈ R, q.d ≠ t) → ∃ u, a.tmps[t]? = some u ∧ x.holds u w
  closed : ∀ j oj, ops[j]? = some oj → listed.getD j false = true → ∀ e ∈ oj.after, Region.binds md e = true → listed.getD e.on false = true
  rows : ∀ q ∈ R, listed.getD q.kA false = true → ∃ b, a.tmps[q.d]? = some (.pointer (some ⟨b, 0, none⟩)) ∧ w0.heap.size ≤ b ∧ Row q.e w b (if listed.getD q.kS false = true then q.cs1 else q.cs0)
  sep : ∀ q ∈ R, ∀ q' ∈ R, q.d ≠ q'.d → listed.getD q.kA false = true → listed.getD q'.kA false = true → ∀ b b', a.tmps[q.d]? = some (.pointer (some ⟨b, 0, none⟩)) → a.tmps[q'.d]? = some (.pointer (some ⟨b', 0, none⟩)) → b ≠ b'

theorem getD_lt {listed : Array Bool} {i : Nat} (h : listed.getD i true = false) : i < listed.size := by
  rcases Nat.lt_or_ge i listed.size with h' | h'
  · exact h'
  · simp [Array.getElem?_eq_none h'] at h

theorem rows_phase {F : List Nat} {rs : List Rec} {R : List RowRec} {PE0 : List (Nat × PK)} {Q : Exit → Act → World → Prop} (hB : rowsB md ops F R = true)
    (hrs : rs.map (·.k) = F) (hr : ∀ r ∈ rs, ops[r.k]? = some r.o ∧ r.o.dst = some r.d ∧ r.d < N ∧ r.x.stays) (hst : ∀ t x, lookP PE0 t = some x → x.stays) (hno : ∀ t x, lookP PE0 t = some x → ∃ v, x = .c v) (hrc : ∀ r ∈ rs, r.x.pure)
    (hPR : ∀ q ∈ R, lookP PE0 q.d = none) (hdN : ∀ q ∈ R, q.d < N)
    (hob : ∀ pre r post, rs = pre ++ r :: post → Ob P N ops ds w0 (envR pre PE0) r.o r.x)
    (hA : ∀ q ∈ R, ∃ o, ops[q.kA]? = some o ∧ o.dst = some q.d ∧ o.guard = none ∧ ∀ (a : Act) w, (execOp a.eval o).run P w = .ok (.value (.pointer (some ⟨w.heap.size, 0, none⟩))) (w.alloc (.cells q.cs0.toArray q.e)))
    (hS : ∀ q ∈ R, ∃ o, ops[q.kS]? = some o ∧ o.dst = none ∧ o.guard = none ∧ ∀ (a : Act) w b, KnowsP N ds (envR rs PE0) a w (fun t => t ∈ o.looksAt ops) → a.tmps[q.d]? = some (.pointer (some ⟨b, 0, none⟩)) → Row q.e w b q.cs0 →
      ∃ w', (execOp a.eval o).run P w = .ok .skip w' ∧ Row q.e w' b q.cs1 ∧ Kp [b] w w')
    (hfin : ∀ a w, Ext w0 w → KnowsP N ds (envR rs PE0) a w (fun _ => True) → (∀ q ∈ R, ∃ b, a.tmps[q.d]? = some (.pointer (some ⟨b, 0, none⟩)) ∧ w0.heap.size ≤ b ∧ Row q.e w b q.cs1) →
      (∀ q ∈ R, ∀ q' ∈ R, q.d ≠ q'.d → ∀ b b', a.tmps[q.d]? = some (.pointer (some ⟨b, 0, none⟩)) → a.tmps[q'.d]? = some (.pointer (some ⟨b', 0, none⟩)) → b ≠ b') → Q .normal a w) :
    ∀ (n : Nat) (rem : List Nat) (listed : Array Bool) (a : Act) (w : World), rem.length = n → rem.Nodup → (∀ k, k ∈ rem ↔ k < ops.size ∧ listed.getD k false = false) → InvR N ops md ds w0 rs R PE0 listed a w →
      wpAny P md ops Q n listed a w := by
  simp only [rowsB, Bool.and_eq_true] at hB
  obtain ⟨⟨⟨⟨⟨⟨⟨⟨hsel, hall⟩, hFb⟩, hnd⟩, hndd⟩, hdi⟩, hsteps⟩, hRb⟩, hFlt⟩ := hB
  have hkF : ∀ r ∈ rs, r.k ∈ F := fun r h => by rw [← hrs]; exact List.mem_map_of_mem h
  have hFk : ∀ k ∈ F, ∃ r ∈ rs, r.k = k := fun k h => by rw [← hrs] at h; simpa using h
  have hFb' : ∀ j ∈ F, j < ops.size ∧ ∀ q ∈ R, q.kA ≠ j ∧ q.kS ≠ j ∧ (ops[j]?).bind (·.dst) ≠ some q.d := fun j hj => by
    have := List.all_eq_true.1 hFb j hj
    simp only [Bool.and_eq_true, decide_eq_true_eq, List.all_eq_true, Bool.not_eq_true', beq_eq_false_iff_ne, ne_eq] at this
    exact ⟨this.1, fun q hq => ⟨(this.2 q hq).1.1, (this.2 q hq).1.2, (this.2 q hq).2⟩⟩
  have hRb' : ∀ q ∈ R, q.kA < ops.size ∧ q.kS < ops.size ∧ waitsB md ops q.kS q.kA = true := fun q hq => by
    have := List.all_eq_true.1 hRb q hq
    simp only [Bool.and_eq_true, decide_eq_true_eq] at this
    exact ⟨this.1.1.1.1.1, this.1.1.1.1.2, this.1.1.1.2⟩
  have hRlook : ∀ q ∈ R, ∀ o, ops[q.kS]? = some o → ∀ t ∈ o.looksAt ops, ∀ j ∈ F, (ops[j]?).bind (·.dst) = some t → waitsB md ops q.kS j = true := fun q hq o ho t ht j hj hd => by
    have := List.all_eq_true.1 hRb q hq
    simp only [Bool.and_eq_true, ho] at this
    have := List.all_eq_true.1 (List.all_eq_true.1 this.1.1.2 t ht) j hj
    simpa [hd] using this
  have hlts : ∀ k, k < ops.size → ∀ o, ops[k]? = some o → ∀ e ∈ o.after, Region.binds md e = true → e.on < k := fun k hk o ho e he hbd => by
    have := List.all_eq_true.1 hall k (List.mem_range.2 hk)
    simp only [Bool.or_eq_true, List.contains_eq_mem, decide_eq_true_eq, List.any_eq_true, beq_iff_eq] at this
    rcases this with h | ⟨q, hq, h | h⟩
    · have := List.all_eq_true.1 hFlt k h
      simp only [ho] at this
      have := Array.all_eq_true_iff_forall_mem.1 this e he
      simpa [hbd] using this
    · subst h
      have := List.all_eq_true.1 hRb q hq
      simp only [Bool.and_eq_true, ho] at this
      have := Array.all_eq_true_iff_forall_mem.1 this.2 e he
      simpa [hbd] using this
    · subst h
      have := List.all_eq_true.1 hRb q hq
      simp only [Bool.and_eq_true, ho] at this
      have := Array.all_eq_true_iff_forall_mem.1 this.1.2 e he
      simpa [hbd] using this
  have hndall := nodupB_spec hnd
  have hdi' : ∀ r ∈ rs, ∀ r' ∈ rs, r.k ≠ r'.k → r.d ≠ r'.d := fun r h r' h' hne he => by
    have := List.all_eq_true.1 (List.all_eq_true.1 hdi r.k (hkF r h)) r'.k (hkF r' h')
    simp only [(hr r h).1, (hr r' h').1, Option.bind_some, (hr r h).2.1, (hr r' h').2.1, he, BEq.rfl, Bool.not_true, Bool.or_false, beq_iff_eq] at this
    exact hne this
  have hrq : ∀ r ∈ rs, ∀ q ∈ R, r.d ≠ q.d := fun r h q hq he => by
    have := ((hFb' _ (hkF r h)).2 q hq).2.2
    simp only [(hr r h).1, Option.bind_some, (hr r h).2.1, he, ne_eq, not_true] at this
  have hndF : (rs.map (·.k)).Nodup := by rw [hrs]; exact (List.nodup_append.1 (List.nodup_append.1 hndall).1).1
  have inj : ∀ {α : Type} (f : α → Nat) (l : List α), (l.map f).Nodup → ∀ x ∈ l, ∀ y ∈ l, f x = f y → x = y := fun f l hn x hx y hy he => by
    obtain ⟨i, hi, rfl⟩ := List.mem_iff_getElem.1 hx
    obtain ⟨j, hj, rfl⟩ := List.mem_iff_getElem.1 hy
    have : i = j := by
      have h1 := List.getElem_inj (xs := l.map f) (i := i) (j := j) (h₀ := by simpa using hi) (h₁ := by simpa using hj) hn
      exact h1.1 (by simpa using he)
    subst this; rfl
  have huniq := inj (·.k) rs hndF
  have huA := inj (·.kA) R (List.nodup_append.1 (List.nodup_append.1 hndall).1).2.1
  have huS := inj (·.kS) R (List.nodup_append.1 hndall).2.1
  have huD := inj (·.d) R (nodupB_spec hndd)
  have hAS : ∀ q ∈ R, ∀ q' ∈ R, q.kA ≠ q'.kS := fun q hq q' hq' he =>
    (List.nodup_append.1 hndall).2.2 q.kA (List.mem_append_right _ (List.mem_map_of_mem hq)) q'.kS (List.mem_map_of_mem hq') he
  have hcond : ∀ pre r post, rs = pre ++ r :: post → condB md ops [] F (pre.map (·.k)) r.k = true := fun pre r post e => by
    have := stepsB_spec hsteps (pre.map (·.k)) r.k (post.map (·.k)) (by rw [← hrs, e]; simp)
    simpa using this
  intro n
  induction n with
  | zero =>
    intro rem listed a w hl _ hrem inv
    have he : rem = [] := List.eq_nil_of_length_eq_zero hl
    have done : ∀ k, k < ops.size → listed.getD k false = true := fun k hk => by
      cases hb : listed.getD k false with
      | true => rfl
      | false => have := (hrem k).2 ⟨hk, hb⟩; rw [he] at this; cases this
    refine ⟨?_, hfin a w inv.ext ⟨inv.size, inv.defers, fun t _ x hx => ?_, fun t t' x x' _ _ _ hx _ hf _ => ?_⟩ (fun q hq => ?_) (fun q hq q' hq' hne b b' => inv.sep q hq q' hq' hne (done _ (hRb' q hq).1) (done _ (hRb' q' hq').1) b b')⟩
    · refine List.eq_nil_iff_forall_not_mem.2 fun k hk => ?_
      obtain ⟨h0, o, ho, _⟩ := mem_ready.1 hk
      have hk' : k < ops.size := (Array.getElem?_eq_some_iff.1 ho).1
      have := done k hk'
      rw [getD_of (by rw [inv.lsz]; exact hk') true false, this] at h0; cases h0
    · rcases lookP_envR rs PE0 t x hx with ⟨r, h, rfl, rfl⟩ | ⟨h1, h2⟩
      · exact inv.recs r h (done _ (hFb' _ (hkF r h)).1)
      · exact inv.base t x h1 (fun r h _ => h2 r h) fun q hq e => by rw [← e, hPR q hq] at h1; cases h1
    · exfalso
      rcases lookP_envR rs PE0 t x hx with ⟨r, h, _, rfl⟩ | ⟨h1, _⟩
      · rw [(hrc r h).isF] at hf; cases hf
      · obtain ⟨v, rfl⟩ := hno t x h1; cases hf
    · obtain ⟨b, h1, h2, h3⟩ := inv.rows q hq (done _ (hRb' q hq).1)
      rw [if_pos (done _ (hRb' q hq).2.1)] at h3
      exact ⟨b, h1, h2, h3⟩
  | succ n ih =>
    intro rem listed a w hl hrn hrem inv
    have hgd : ∀ i, i < ops.size → listed.getD i true = listed.getD i false := fun i hi => getD_of (by rw [inv.lsz]; exact hi) _ _
    have hne : rem ≠ [] := fun h => by rw [h] at hl; cases hl
    obtain ⟨k0, hk0⟩ := List.exists_mem_of_ne_nil rem hne
    refine ⟨fun h0 => ?_, fun i hi => ?_⟩
    · exfalso
      have key : ∀ m k, k < ops.size → k ≤ m → listed.getD k false = true := by
        intro m
        induction m with
        | zero =>
          intro k hk hm
          cases hb : listed.getD k false with
          | true => rfl
          | false =>
            obtain ⟨o, ho⟩ : ∃ o, ops[k]? = some o := ⟨ops[k], by simp [hk]⟩
            have : k ∈ Region.ready md ops listed := mem_ready.2 ⟨by rw [hgd k hk]; exact hb, o, ho, fun e he hbd => by have := hlts k hk o ho e he hbd; omega⟩
            rw [h0] at this; cases this
        | succ m ihm =>
          intro k hk hm
          cases hb : listed.getD k false with
          | true => rfl
          | false =>
            obtain ⟨o, ho⟩ : ∃ o, ops[k]? = some o := ⟨ops[k], by simp [hk]⟩
            have : k ∈ Region.ready md ops listed := mem_ready.2 ⟨by rw [hgd k hk]; exact hb, o, ho, fun e he hbd => by
              have := hlts k hk o ho e he hbd
              exact ihm e.on (by omega) (by omega)⟩
            rw [h0] at this; cases this
      have := key k0 k0 ((hrem k0).1 hk0).1 (Nat.le_refl _)
      rw [((hrem k0).1 hk0).2] at this; cases this
    · obtain ⟨hi0, oi, hoi, hiall⟩ := mem_ready.1 hi
      have his : i < ops.size := (Array.getElem?_eq_some_iff.1 hoi).1
      rw [hgd i his] at hi0
      have waits_done : ∀ j, waitsB md ops i j = true → listed.getD j false = true := fun j hj => by
        obtain ⟨o', ho', e, he, hbd, rfl⟩ := waitsB_spec hj
        rw [hoi] at ho'; cases ho'
        exact hiall e he hbd
      have hlsz : i < listed.size := by rw [inv.lsz]; exact his
      have hset : ∀ j, j ≠ i → (listed.setIfInBounds i true).getD j false = listed.getD j false := fun j hj => getD_set_ne false (Ne.symm hj)
      have hself : (listed.setIfInBounds i true).getD i false = true := by simp [hlsz]
      have hrem' : ∀ k, k ∈ rem.erase i ↔ k < ops.size ∧ (listed.setIfInBounds i true).getD k false = false := fun k => by
        rw [hrn.mem_erase_iff, hrem]
        constructor
        · rintro ⟨h5, h6, h7⟩; exact ⟨h6, by rw [hset k h5]; exact h7⟩
        · rintro ⟨h5, h6⟩
          by_cases hk : k = i
          · subst hk; rw [hself] at h6; cases h6
          · exact ⟨hk, h5, by rw [hset k hk] at h6; exact h6⟩
      have hlen : (rem.erase i).length = n := by rw [List.length_erase_of_mem ((hrem _).2 ⟨his, hi0⟩), hl]; rfl
      have hclosed : ∀ j oj, ops[j]? = some oj → (listed.setIfInBounds i true).getD j false = true → ∀ e ∈ oj.after, Region.binds md e = true → (listed.setIfInBounds i true).getD e.on false = true := fun j oj hj hd e hee hbd => by
        by_cases hk : j = i
        · subst hk
          rw [hoi] at hj; cases hj
          exact getD_set_true (hiall e hee hbd)
        · rw [hset _ hk] at hd
          exact getD_set_true (inv.closed j oj hj hd e hee hbd)
      have hcase := List.all_eq_true.1 hall i (List.mem_range.2 his)
      simp only [Bool.or_eq_true, List.contains_eq_mem, decide_eq_true_eq, List.any_eq_true, beq_iff_eq] at hcase
      rcases hcase with hiF | ⟨q, hq, hk | hk⟩
      · -- an operation that reckons a value
        obtain ⟨r, hrm, hrk⟩ := hFk i hiF
        subst hrk
        obtain ⟨h1, h2, h3, h4⟩ := hr r hrm
        rw [hoi] at h1; cases h1
        obtain ⟨pre, post, he⟩ := List.append_of_mem hrm
        have hc := hcond pre r post he
        simp only [condB, hoi, Bool.and_eq_true] at hc
        have hkn : KnowsP N ds (envR pre PE0) a w (fun t => t ∈ r.o.looksAt ops) := by
          refine ⟨inv.size, inv.defers, fun t ht x hx => ?_, fun t t' x x' _ _ _ hx _ hf _ => ?_⟩
          · have hct := List.all_eq_true.1 hc.2 t ht
            have hq : ∀ q ∈ rs, q.d = t → (bif (pre.map (·.k)).contains q.k then waitsB md ops r.k q.k else (q.k == r.k || waitsB md ops q.k r.k)) = true := fun q hq hqt => by
              have := List.all_eq_true.1 hct q.k (hkF q hq)
              simpa [(hr q hq).1, (hr q hq).2.1, hqt] using this
            rcases lookP_envR pre PE0 t x hx with ⟨q, hqm, hqd, rfl⟩ | ⟨h5, h6⟩
            · have hqr : q ∈ rs := by rw [he]; exact List.mem_append_left _ hqm
              have := hq q hqr hqd
              rw [show (pre.map (·.k)).contains q.k = true by simp only [List.contains_eq_mem, decide_eq_true_eq]; exact List.mem_map_of_mem hqm] at this
              simp only [cond_true] at this
              rw [← hqd]
              exact inv.recs q hqr (waits_done _ this)
            · refine inv.base t x h5 (fun q hqr hqdn hqd => ?_) fun q hq' e => by rw [← e, hPR q hq'] at h5; cases h5
              have := hq q hqr hqd
              by_cases hqp : q ∈ pre
              · exact h6 q hqp hqd
              · have hnc : (pre.map (·.k)).contains q.k = false := by
                  simp only [List.contains_eq_mem, decide_eq_false_iff_not]
                  intro hm
                  obtain ⟨q', hq', hqe⟩ := List.mem_map.1 hm
                  have := huniq q' (by rw [he]; exact List.mem_append_left _ hq') q hqr hqe
                  subst this; exact hqp hq'
                rw [hnc] at this
                simp only [cond_false, Bool.or_eq_true, beq_iff_eq] at this
                rcases this with h7 | h7
                · rw [h7, hi0] at hqdn; cases hqdn
                · obtain ⟨o', ho', e, hee, hbd, heo⟩ := waitsB_spec h7
                  have := inv.closed q.k o' ho' hqdn e hee hbd
                  rw [heo, hi0] at this; cases this
          · exfalso
            rcases lookP_envR pre PE0 t x hx with ⟨r', h, _, rfl⟩ | ⟨h1, _⟩
            · rw [(hrc r' (by rw [he]; exact List.mem_append_left _ h)).isF] at hf; cases hf
            · obtain ⟨v, rfl⟩ := hno t x h1; cases hf
        have hSt := hob pre r post he (Region.noSelect_spec hsel r.k r.o · · hoi) a w inv.ext hkn
        have fin : ∀ v w2, Ext w w2 → r.x.holds v w2 → wpAny P md ops Q n (listed.setIfInBounds r.k true) (a.put r.o.dst v) w2 := by
          intro v w2 hx hv
          have hput : ∀ t, t ≠ r.d → (a.put r.o.dst v).tmps[t]? = a.tmps[t]? := fun t ht => by
            rw [h2]; simp only [Act.put]; rw [Array.getElem?_setIfInBounds_ne (Ne.symm ht)]
          have hqk : ∀ q ∈ R, q.kA ≠ r.k ∧ q.kS ≠ r.k := fun q hq => ⟨((hFb' _ hiF).2 q hq).1, ((hFb' _ hiF).2 q hq).2.1⟩
          refine ih _ _ _ _ hlen (hrn.erase _) hrem' ⟨by rw [h2]; simp [Act.put, inv.size], by rw [h2]; exact inv.defers, inv.ext.trans hx, by simp [inv.lsz], fun q hq hd => ?_, fun t x hx' hd hd2 => ?_, hclosed, fun q hq hd => ?_, fun q hq q' hq' hne hd hd' b b' hb hb' => ?_⟩
          · by_cases hk : q.k = r.k
            · have := huniq q hq r hrm hk
              subst this
              exact ⟨v, by rw [h2]; simp [Act.put, inv.size, h3], hv⟩
            · rw [hset _ hk] at hd
              obtain ⟨u, hu, hh⟩ := inv.recs q hq hd
              exact ⟨u, by rw [hput _ (hdi' q hq r hrm hk)]; exact hu, hh.ext (hr q hq).2.2.2 hx⟩
          · have hrt : r.d ≠ t := hd r hrm hself
            obtain ⟨u, hu, hh⟩ := inv.base t x hx' (fun q hq hqd => by
              by_cases hk : q.k = r.k
              · have := huniq q hq r hrm hk
                subst this; exact hrt
              · exact hd q hq (by rw [hset _ hk]; exact hqd)) hd2
            exact ⟨u, by rw [hput _ (Ne.symm hrt)]; exact hu, hh.ext (hst t x hx') hx⟩
          · rw [hset _ (hqk q hq).1] at hd
            obtain ⟨b, g1, g2, g3⟩ := inv.rows q hq hd
            exact ⟨b, by rw [hput _ (Ne.symm (hrq r hrm q hq))]; exact g1, g2, by rw [hset _ (hqk q hq).2]; exact g3.kp hx (by simp)⟩
          · rw [hset _ (hqk q hq).1] at hd
            rw [hset _ (hqk q' hq').1] at hd'
            rw [hput _ (Ne.symm (hrq r hrm q hq))] at hb
            rw [hput _ (Ne.symm (hrq r hrm q' hq'))] at hb'
            exact inv.sep q hq q' hq' hne hd hd' b b' hb hb'
        unfold wpOp
        simp only [hoi]
        simp only [Step1] at hSt
        split
        · rename_i hwt
          rw [if_pos hwt] at hSt
          exact .inl (wp_weaken (fun a2 w2 ⟨v, e, hx, hv, _⟩ => by subst e; exact fin v w2 hx hv) hSt)
        · rename_i hwt
          rw [if_neg hwt] at hSt
          exact fin undef w (Kp.refl _ _) hSt
      · -- a new variable
        subst hk
        obtain ⟨o, ho, hod, hog, hrun⟩ := hA q hq
        rw [hoi] at ho; cases ho
        unfold wpOp
        simp only [hoi, Region.wanted, hog, if_true]
        refine .inl ?_
        unfold Oper.wp
        rw [hrun a w]
        simp only [Oper.upon, hod]
        have hput : ∀ t, t ≠ q.d → (a.put (some q.d) (.pointer (some ⟨w.heap.size, 0, none⟩))).tmps[t]? = a.tmps[t]? := fun t ht => by
          simp only [Act.put]; rw [Array.getElem?_setIfInBounds_ne (Ne.symm ht)]
        have hput1 : (a.put (some q.d) (.pointer (some ⟨w.heap.size, 0, none⟩))).tmps[q.d]? = some (.pointer (some ⟨w.heap.size, 0, none⟩)) := by simp [Act.put, inv.size, hdN q hq]
        have hx : Ext w (w.alloc (.cells q.cs0.toArray q.e)) := Kp.alloc _ _ _
        have hfk : ∀ r ∈ rs, r.k ≠ q.kA := fun r h e => ((hFb' _ (hkF r h)).2 q hq).1 e.symm
        have hqA : ∀ q' ∈ R, q'.d ≠ q.d → q'.kA ≠ q.kA := fun q' hq' hne e => hne (by rw [huA q' hq' q hq e])
        have hqS : ∀ q' ∈ R, q'.kS ≠ q.kA := fun q' hq' e => hAS q hq q' hq' e.symm
        have hSnot : listed.getD q.kS false = false := by
          cases hb : listed.getD q.kS false with
          | false => rfl
          | true =>
            obtain ⟨o', ho', e, hee, hbd, heo⟩ := waitsB_spec (hRb' q hq).2.2
            have := inv.closed q.kS o' ho' hb e hee hbd
            rw [heo, hi0] at this; cases this
        have hblt : ∀ q' ∈ R, listed.getD q'.kA false = true → ∀ b, a.tmps[q'.d]? = some (.pointer (some ⟨b, 0, none⟩)) → b < w.heap.size := fun q' hq' hd b hb => by
          obtain ⟨b', g1, _, g3⟩ := inv.rows q' hq' hd
          rw [hb] at g1; cases g1
          exact g3.rd.lt
        refine ih _ _ _ _ hlen (hrn.erase _) hrem' ⟨by simp [Act.put, inv.size], inv.defers, inv.ext.trans hx, by simp [inv.lsz], fun r hrm hd => ?_, fun t x hx' hd hd2 => ?_, hclosed, fun q' hq' hd => ?_, fun q1 hq1 q2 hq2 hne hd hd' b b' hb hb' => ?_⟩
        · rw [hset _ (hfk r hrm)] at hd
          obtain ⟨u, hu, hh⟩ := inv.recs r hrm hd
          exact ⟨u, by rw [hput _ (hrq r hrm q hq)]; exact hu, hh.ext (hr r hrm).2.2.2 hx⟩
        · obtain ⟨u, hu, hh⟩ := inv.base t x hx' (fun r hrm hqd => hd r hrm (by rw [hset _ (hfk r hrm)]; exact hqd)) hd2
          exact ⟨u, by rw [hput _ (Ne.symm (hd2 q hq))]; exact hu, hh.ext (hst t x hx') hx⟩
        · by_cases hqd : q'.d = q.d
          · have := huD q' hq' q hq hqd
            subst this
            refine ⟨w.heap.size, hput1, inv.ext.size, ?_⟩
            rw [hset _ (hqS q' hq'), hSnot]
            simp only [Bool.false_eq_true, if_false]
            exact heap_alloc_new w _
          · rw [hset _ (hqA q' hq' hqd)] at hd
            obtain ⟨b, g1, g2, g3⟩ := inv.rows q' hq' hd
            exact ⟨b, by rw [hput _ hqd]; exact g1, g2, by rw [hset _ (hqS q' hq')]; exact g3.kp hx (by simp)⟩
        · by_cases h1 : q1.d = q.d
          · have := huD q1 hq1 q hq h1
            subst this
            have hd2 : listed.getD q2.kA false = true := by rw [hset _ (hqA q2 hq2 (Ne.symm hne))] at hd'; exact hd'
            rw [hput1] at hb; cases hb
            rw [hput _ (Ne.symm hne)] at hb'
            have := hblt q2 hq2 hd2 b' hb'
            omega
          · by_cases h2 : q2.d = q.d
            · have := huD q2 hq2 q hq h2
              subst this
              have hd1 : listed.getD q1.kA false = true := by rw [hset _ (hqA q1 hq1 hne)] at hd; exact hd
              rw [hput1] at hb'; cases hb'
              rw [hput _ hne] at hb
              have := hblt q1 hq1 hd1 b hb
              omega
            · rw [hset _ (hqA q1 hq1 h1)] at hd
              rw [hset _ (hqA q2 hq2 h2)] at hd'
              rw [hput _ h1] at hb
              rw [hput _ h2] at hb'
              exact inv.sep q1 hq1 q2 hq2 hne hd hd' b b' hb hb'
      · -- a variable is written
        subst hk
        obtain ⟨o, ho, hod, hog, hrun⟩ := hS q hq
        rw [hoi] at ho; cases ho
        have hAdone : listed.getD q.kA false = true := waits_done _ (hRb' q hq).2.2
        obtain ⟨b, g1, g2, g3⟩ := inv.rows q hq hAdone
        rw [hi0] at g3
        simp only [Bool.false_eq_true, if_false] at g3
        have hkn : KnowsP N ds (envR rs PE0) a w (fun t => t ∈ oi.looksAt ops) := by
          refine ⟨inv.size, inv.defers, fun t ht x hx => ?_, fun t t' x x' _ _ _ hx _ hf _ => ?_⟩
          · rcases lookP_envR rs PE0 t x hx with ⟨r, h, hrd, rfl⟩ | ⟨h5, h6⟩
            · have := hRlook q hq oi hoi t ht r.k (hkF r h) (by rw [(hr r h).1, Option.bind_some, (hr r h).2.1, hrd])
              rw [← hrd]
              exact inv.recs r h (waits_done _ this)
            · exact inv.base t x h5 (fun r h _ => h6 r h) fun q' hq' e => by rw [← e, hPR q' hq'] at h5; cases h5
          · exfalso
            rcases lookP_envR rs PE0 t x hx with ⟨r', h, _, rfl⟩ | ⟨h1, _⟩
            · rw [(hrc r' h).isF] at hf; cases hf
            · obtain ⟨v, rfl⟩ := hno t x h1; cases hf
        obtain ⟨w', hrw, hrow, hkp⟩ := hrun a w b hkn g1 g3
        unfold wpOp
        simp only [hoi, Region.wanted, hog, if_true]
        refine .inl ?_
        unfold Oper.wp
        rw [hrw]
        simp only [Oper.upon, hod]
        have hx : Ext w0 w' := inv.ext.tail hkp (fun x hx => by
          have : x = b := by simpa using hx
          subst this; exact g2)
        have hfk : ∀ r ∈ rs, r.k ≠ q.kS := fun r h e => ((hFb' _ (hkF r h)).2 q hq).2.1 e.symm
        have hqA : ∀ q' ∈ R, q'.kA ≠ q.kS := fun q' hq' => hAS q' hq' q hq
        have hqS : ∀ q' ∈ R, q'.d ≠ q.d → q'.kS ≠ q.kS := fun q' hq' hne e => hne (by rw [huS q' hq' q hq e])
        refine ih _ _ _ _ hlen (hrn.erase _) hrem' ⟨inv.size, inv.defers, hx, by simp [inv.lsz], fun r hrm hd => ?_, fun t x hx' hd hd2 => ?_, hclosed, fun q' hq' hd => ?_, fun q1 hq1 q2 hq2 hne hd hd' b b' hb hb' => ?_⟩
        · rw [hset _ (hfk r hrm)] at hd
          obtain ⟨u, hu, hh⟩ := inv.recs r hrm hd
          exact ⟨u, hu, (hrc r hrm).any hh⟩
        · obtain ⟨u, hu, hh⟩ := inv.base t x hx' (fun r hrm hqd => hd r hrm (by rw [hset _ (hfk r hrm)]; exact hqd)) hd2
          refine ⟨u, hu, ?_⟩
          obtain ⟨v, rfl⟩ := hno t x hx'
          exact hh
        · rw [hset _ (hqA q' hq')] at hd
          by_cases hqd : q'.d = q.d
          · have := huD q' hq' q hq hqd
            subst this
            refine ⟨b, g1, g2, ?_⟩
            rw [hself]
            exact hrow
          · obtain ⟨b', e1, e2, e3⟩ := inv.rows q' hq' hd
            have hbb : b' ≠ b := inv.sep q' hq' q hq hqd hd hAdone b' b e1 g1
            exact ⟨b', e1, e2, by rw [hset _ (hqS q' hq' hqd)]; exact e3.kp hkp (by simpa using hbb)⟩
        · rw [hset _ (hqA q1 hq1)] at hd
          rw [hset _ (hqA q2 hq2)] at hd'
          exact inv.sep q1 hq1 q2 hq2 hne hd hd' b b' hb hb'
/-- A variable's one store, where L is known. -/
def StoreOk (P : Program) (N : Nat) (ops : Array Oper) (ds : List Deferred) (L : Env) (q : RowRec) : Prop :=
  ∃ o, ops[q.kS]? = some o ∧ o.dst = none ∧ o.guard = none ∧ ∀ (a : Act) (w : World) (b : Nat), Knows N ds ((q.d, .pointer (some ⟨b, 0, none⟩)) :: L) a → Row q.e w b q.cs0 →
    ∃ w', (execOp a.eval o).run P w = .ok .skip w' ∧ Row q.e w' b q.cs1 ∧ Kp [b] w w'
theorem storeOk {L : Env} {e t ty : TypeId} {pos : String} {af : Array Edge} {y : Operand} {v : Value} {vs cs0 : List Value} {n kA kS d : Nat} (ho : ops[kS]? = some ⟨none, .store t (.tmp d) y, ty, pos, af, none⟩)
    (hy : ∀ b, ev ((d, .pointer (some ⟨b, 0, none⟩)) :: L) y = some v) (hv : v.cells = vs.toArray) (hz : ∀ w, (sizeOf t).run P w = .ok n w) (hn : vs.length = n) (hl : Nat.ble (0 + vs.length) cs0.length = true) (h1 : ∀ u ∈ vs, u.oneCell' = true) :
    StoreOk P N ops ds L ⟨kA, d, e, cs0, kS, setAt cs0 0 vs⟩ := by
  subst hn
  refine ⟨_, ho, rfl, rfl, fun a w b ha hr => ?_⟩
  obtain ⟨w', hrun, hw', hk⟩ := run_storeAt (P := P) b e vs 0 cs0 w 0 hr (Nat.le_of_ble_eq_true hl) h1
  have hx : a.eval (.tmp d) = .pointer (some ⟨b, 0, none⟩) := ha.eval (by simp [ev, look])
  refine ⟨w', ?_, hw', hk⟩
  simp [execOp, hx, ha.eval (hy b), Instr.storeAt, Instr.sureAddr, storeVar, hv, hz, hrun]
/-- The variables, at the end. -/
def rowsOut (w w2 : World) (Q : Env → Prop) : List RowRec → List Nat → Env → Prop
  | [], _, L => Q L
  | q :: r, seen, L => ∀ b, w.heap.size ≤ b → Row q.e w2 b q.cs1 → (∀ s ∈ seen, b ≠ s) → rowsOut w w2 Q r (b :: seen) ((q.d, .pointer (some ⟨b, 0, none⟩)) :: L)

theorem rowsOut_use {w2 : World} {Q : Env → Prop} {a : Act} (hsz : a.tmps.size = N) (hdf : a.defers = ds) : ∀ (R : List RowRec) (seen : List RowRec) (sb : List Nat) (L : Env), Knows N ds L a → (R.map (·.d)).Nodup →
    (∀ q ∈ R, ∃ b, a.tmps[q.d]? = some (.pointer (some ⟨b, 0, none⟩)) ∧ w0.heap.size ≤ b ∧ Row q.e w2 b q.cs1) →
    (∀ q ∈ R, ∀ q' ∈ R, q.d ≠ q'.d → ∀ b b', a.tmps[q.d]? = some (.pointer (some ⟨b, 0, none⟩)) → a.tmps[q'.d]? = some (.pointer (some ⟨b', 0, none⟩)) → b ≠ b') →
    (∀ s ∈ sb, ∀ q ∈ R, ∀ b, a.tmps[q.d]? = some (.pointer (some ⟨b, 0, none⟩)) → b ≠ s) → rowsOut w0 w2 Q R sb L → ∃ L', Knows N ds L' a ∧ Q L'
  | [], _, _, L, hk, _, _, _, _, h => ⟨L, hk, h⟩
  | q :: r, seen, sb, L, hk, hnd, hrow, hsep, hsb, h => by
    obtain ⟨b, h1, h2, h3⟩ := hrow q (List.mem_cons_self ..)
    rw [List.map_cons, List.nodup_cons] at hnd
    refine rowsOut_use hsz hdf r seen (b :: sb) ((q.d, .pointer (some ⟨b, 0, none⟩)) :: L) ⟨hk.size, hk.defers, fun t v ht => ?_⟩ hnd.2 (fun q' hq' => hrow q' (List.mem_cons_of_mem _ hq')) (fun q1 h1 q2 h2 => hsep q1 (List.mem_cons_of_mem _ h1) q2 (List.mem_cons_of_mem _ h2)) (fun s hs q' hq' b' hb' => ?_) (h b h2 h3 fun s hs => hsb s hs q (List.mem_cons_self ..) b h1)
    · rw [look_cons] at ht
      split at ht
      · rename_i e; subst e; cases ht; exact h1
      · exact hk.val t v ht
    · rcases List.mem_cons.1 hs with rfl | hs
      · exact hsep q' (List.mem_cons_of_mem _ hq') q (List.mem_cons_self ..) (fun e => hnd.1 (by rw [← e]; exact List.mem_map_of_mem hq')) b' s hb' h1
      · exact hsb s hs q' (List.mem_cons_of_mem _ hq') b' hb'

def zipC : List RowRec → List (List Value) → List RowRec
  | q :: r, c :: cs => { q with cs1 := c } :: zipC r cs
  | r, _ => r
theorem zipC_any {f : RowRec → Bool} (hf : ∀ q c, f { q with cs1 := c } = f q) : ∀ (R : List RowRec) (C : List (List Value)), (zipC R C).any f = R.any f
  | [], C => by cases C <;> rfl
  | q :: r, [] => rfl
  | q :: r, c :: cs => by simp only [zipC, List.any_cons, hf, zipC_any hf r cs]
theorem zipC_all {f : RowRec → Bool} (hf : ∀ q c, f { q with cs1 := c } = f q) : ∀ (R : List RowRec) (C : List (List Value)), (zipC R C).all f = R.all f
  | [], C => by cases C <;> rfl
  | q :: r, [] => rfl
  | q :: r, c :: cs => by simp only [zipC, List.all_cons, hf, zipC_all hf r cs]
theorem zipC_map {f : RowRec → Nat} (hf : ∀ q c, f { q with cs1 := c } = f q) : ∀ (R : List RowRec) (C : List (List Value)), (zipC R C).map f = R.map f
  | [], C => by cases C <;> rfl
  | q :: r, [] => rfl
  | q :: r, c :: cs => by simp only [zipC, List.map_cons, hf, zipC_map hf r cs]
theorem zipC_rowsB (md : Region.Mode) (ops : Array Oper) (F : List Nat) (R : List RowRec) (C : List (List Value)) : rowsB md ops F (zipC R C) = rowsB md ops F R := by
  unfold rowsB
  simp only [zipC_map (f := (·.kA)) (fun _ _ => rfl), zipC_map (f := (·.kS)) (fun _ _ => rfl), zipC_map (f := (·.d)) (fun _ _ => rfl)]
  rw [zipC_all (fun _ _ => rfl)]
  congr 6
  · congr 1
    · congr 1
      congr 1
      funext j
      congr 1
      exact zipC_any (fun _ _ => rfl) R C
    · congr 1
      funext j
      congr 1
      exact zipC_all (fun _ _ => rfl) R C
def AllR (p : RowRec → Prop) : List RowRec → Prop
  | [] => True
  | q :: r => p q ∧ AllR p r
theorem AllR.get {p : RowRec → Prop} : ∀ {R : List RowRec}, AllR p R → ∀ q ∈ R, p q
  | [], _, q, h => by cases h
  | x :: r, h, q, hq => by
    rcases List.mem_cons.1 hq with rfl | hq
    · exact h.1
    · exact AllR.get h.2 q hq
/-- What is asked where all values are reckoned. -/
def RowsEnd (P : Program) (N : Nat) (ops : Array Oper) (ds : List Deferred) (w : World) (R : List RowRec) (A : Out) (ds' : List Deferred) (L' : Env) (_ : World) : Prop :=
  ds' = ds ∧ ∃ C : List (List Value), AllR (StoreOk P N ops ds L') (zipC R C) ∧ ∀ w2, Ext w w2 → rowsOut w w2 (fun L2 => A ds L2 w2) (zipC R C) [] L'

theorem fix_recs {G : List (Nat × PK) → Prop} : ∀ (F : List Nat) (PE : List (Nat × PK)), (∀ k ∈ F, k < ops.size) → fixR P N ops ds w0 G (pickL ops F) PE →
    ∃ rs : List Rec, rs.map (·.k) = F ∧ (∀ r ∈ rs, ops[r.k]? = some r.o ∧ r.o.dst = some r.d ∧ r.d < N ∧ r.x.stays) ∧ (∀ r ∈ rs, r.x.pure) ∧ (∀ pre r post, rs = pre ++ r :: post → Ob P N ops ds w0 (envR pre PE) r.o r.x) ∧ G (envR rs PE)
  | [], PE, _, h => ⟨[], rfl, fun _ hr => (by cases hr), fun _ hr => (by cases hr), fun pre _ _ e => (by cases pre <;> cases e), h⟩
  | k :: F, PE, hk, h => by
    have hlt := hk k (List.mem_cons_self ..)
    obtain ⟨o, ho⟩ : ∃ o, ops[k]? = some o := ⟨ops[k], by simp [hlt]⟩
    simp only [pickL, ho] at h
    obtain ⟨d, x, h1, h2, h3, h4, h5⟩ := h
    obtain ⟨rs, e1, e2, e2', e3, e4⟩ := fix_recs F _ (fun j hj => hk j (List.mem_cons_of_mem _ hj)) h5
    refine ⟨⟨k, o, d, x⟩ :: rs, by simp [e1], fun r hr => ?_, fun r hr => ?_, fun pre r post e => ?_, e4⟩
    · rcases List.mem_cons.1 hr with rfl | hr
      · exact ⟨ho, h1, by simpa [Nat.blt_eq] using h2, h3.stays⟩
      · exact e2 r hr
    · rcases List.mem_cons.1 hr with rfl | hr
      · exact h3
      · exact e2' r hr
    · cases pre with
      | nil => cases e; exact h4
      | cons q pre => cases e; exact e3 pre r post rfl

/-- At the end of what only reckons. -/
theorem Reg.nilX {PZ : List (Nat × PK)} {L : Env} {w : World} {A B : Out} {X : Nat → Out} {Z : List PanicEntry → Out} (h : A ds L w) : Reg P N ops (.fix PZ PZ) [] ds L w A B X Z := fun _ hf => ⟨L, hf, h⟩

/-- A region that draws its order and lays out variables that are written once. -/
theorem cw_regRows {id : Nat} {l : List Oper} {L : Env} {w : World} {A B : Out} {X : Nat → Out} {Z : List PanicEntry → Out} (F : List Nat) (R0 : List RowRec) (hm : P.follows .mixedOrders = true) (hB0 : rowsB .any l.toArray F R0 = true)
    (hN : (L.all fun p => Nat.blt p.1 N) = true) (hR0 : (R0.all fun q => Nat.blt q.d N && (look L q.d).isNone) = true)
    (hA0 : AllR (fun q => ∃ z ty pos af, l.toArray[q.kA]? = some ⟨some q.d, .alloc q.e, ty, pos, af, none⟩ ∧ (∀ w, (zeroValue q.e).run P w = .ok z w) ∧ z.cells = q.cs0.toArray) R0)
    (h : Reg P N l.toArray (.fix [] []) (pickL l.toArray F) ds L w (RowsEnd P N l.toArray ds w R0 A) NoO (fun _ => NoO) NoZ) :
    CW P N (.region id l.toArray true) ds L w A B X Z := by
  intro a ha
  have hB1 := hB0
  simp only [rowsB, Bool.and_eq_true] at hB1
  obtain ⟨⟨⟨⟨⟨⟨⟨⟨hsel, hall⟩, hFb0⟩, hnd⟩, hndd0⟩, hdi⟩, hsteps⟩, hRb⟩, hFlt⟩ := hB1
  have hlkc : ∀ (L : Env) t, lookP (L.map fun p => (p.1, PK.c p.2)) t = (look L t).map PK.c := by
    intro L t
    induction L with
    | nil => rfl
    | cons p L ih => obtain ⟨k, v⟩ := p; rw [List.map_cons, lookP_cons, look_cons]; split <;> simp [*]
  have hmem : ∀ (L : Env) t v, look L t = some v → ∃ p ∈ L, p.1 = t := by
    intro L t v
    induction L with
    | nil => intro h; cases h
    | cons p L ih =>
      obtain ⟨k, u⟩ := p
      rw [look_cons]
      split
      · rename_i e; intro _; exact ⟨(k, u), List.mem_cons_self .., e⟩
      · intro h; obtain ⟨q, hq, e⟩ := ih h; exact ⟨q, List.mem_cons_of_mem _ hq, e⟩
  have hfit : Fits N (L.map fun p => (p.1, PK.c p.2)) L [] := by
    refine ⟨fun t v ht => by rw [hlkc, ht]; rfl, fun t v ht => ?_, fun t K hK => (by cases hK), fun t x hx => ?_⟩
    · obtain ⟨p, hp, rfl⟩ := hmem L t v ht
      have := List.all_eq_true.1 hN p hp
      simpa [Nat.blt_eq] using this
    · rw [hlkc] at hx
      cases hl : look L t with
      | none => rw [hl] at hx; cases hx
      | some v => rw [hl] at hx; cases hx; trivial
  have hno : ∀ t x, lookP (L.map fun p => (p.1, PK.c p.2)) t = some x → ∃ v, x = .c v := fun t x hx => by
    rw [hlkc] at hx
    cases hl : look L t with
    | none => rw [hl] at hx; cases hx
    | some v => rw [hl] at hx; cases hx; exact ⟨v, rfl⟩
  have hFlt : ∀ k ∈ F, k < l.toArray.size := fun k hk => by
    have := List.all_eq_true.1 hFb0 k hk
    simp only [Bool.and_eq_true, decide_eq_true_eq] at this
    exact this.1
  obtain ⟨rs, e1, e2, e2', e3, L', hf', _, C, hst0, hout⟩ := fix_recs F _ hFlt (h _ hfit)
  obtain ⟨R, hRe⟩ : ∃ R, R = zipC R0 C := ⟨_, rfl⟩
  have hB : rowsB .any l.toArray F R = true := by rw [hRe, zipC_rowsB]; exact hB0
  rw [← hRe] at hst0 hout
  have hst := hst0.get
  have hFb : (F.all fun j => decide (j < l.toArray.size) && R.all fun q => !(q.kA == j) && !(q.kS == j) && !((l.toArray[j]?).bind (·.dst) == some q.d)) = true := by
    have hB2 := hB
    simp only [rowsB, Bool.and_eq_true] at hB2
    exact hB2.1.1.1.1.1.1.2
  have hndd : nodupB (R.map (·.d)) = true := by
    have hB2 := hB
    simp only [rowsB, Bool.and_eq_true] at hB2
    exact hB2.1.1.1.1.2
  have hzip : ∀ (R : List RowRec) (C : List (List Value)), ∀ q ∈ zipC R C, ∃ q0 ∈ R, ∃ c, q = { q0 with cs1 := c } := by
    intro R
    induction R with
    | nil => intro C q hq; cases C <;> cases hq
    | cons x r ih =>
      intro C q hq
      cases C with
      | nil => exact ⟨q, hq, q.cs1, rfl⟩
      | cons c cs =>
        rcases List.mem_cons.1 hq with rfl | hq
        · exact ⟨x, List.mem_cons_self .., c, rfl⟩
        · obtain ⟨q0, h0, c', e⟩ := ih cs q hq
          exact ⟨q0, List.mem_cons_of_mem _ h0, c', e⟩
  have hR' : ∀ q ∈ R, q.d < N ∧ look L q.d = none := fun q hq => by
    rw [hRe] at hq
    obtain ⟨q0, h0, c, rfl⟩ := hzip R0 C q hq
    have := List.all_eq_true.1 hR0 q0 h0
    simp only [Bool.and_eq_true, Nat.blt_eq, Option.isNone_iff_eq_none] at this
    exact this
  have hA : ∀ q ∈ R, ∃ z ty pos af, l.toArray[q.kA]? = some ⟨some q.d, .alloc q.e, ty, pos, af, none⟩ ∧ (∀ w, (zeroValue q.e).run P w = .ok z w) ∧ z.cells = q.cs0.toArray := fun q hq => by
    rw [hRe] at hq
    obtain ⟨q0, h0, c, rfl⟩ := hzip R0 C q hq
    exact hA0.get q0 h0
  -- a frame that knows all
  have full : ∀ (S : List Nat) (a : Act) (w : World), KnowsP N ds (envR rs (L.map fun p => (p.1, PK.c p.2))) a w (fun t => t ∈ S) → ∃ a', Knows N ds L' a' ∧ ∀ t ∈ S, a'.tmps[t]? = a.tmps[t]? := fun S a w hk => by
    refine ⟨{ a with tmps := Array.ofFn fun i : Fin N => if i.val ∈ S then a.tmps.getD i.val undef else (look L' i.val).getD undef }, ⟨by simp, hk.defers, fun t v ht => ?_⟩, fun t ht => ?_⟩
    · have hlt := hf'.n t v ht
      simp only [Array.getElem?_ofFn, hlt, dif_pos]
      by_cases hm : t ∈ S
      · obtain ⟨u, hu, hh⟩ := hk.val t hm _ (hf'.c t v ht)
        have hh : u = v := hh
        simp [hm, Array.getD_eq_getD_getElem?, hu, hh]
      · simp [hm, ht]
    · by_cases hlt : t < N
      · have h1 : t < a.tmps.size := by rw [hk.size]; exact hlt
        simp [Array.getElem?_ofFn, hlt, ht, h1]
      · have h1 : ¬ t < a.tmps.size := by rw [hk.size]; exact hlt
        simp [Array.getElem?_ofFn, hlt, h1]
  have hdone := rows_phase (N := N) (w0 := w) (ds := ds) (P := P) (Q := lift N A NoO (fun _ => NoO) NoZ) hB e1 e2 hfit.s hno e2' (fun q hq => by rw [hlkc, (hR' q hq).2]; rfl) (fun q hq => (hR' q hq).1) e3
    (fun q hq => by
      obtain ⟨z, ty, pos, af, h1, h2, h3⟩ := hA q hq
      refine ⟨_, h1, rfl, rfl, fun a w => ?_⟩
      simp [execOp, Instr.alloc, h2, newVar, newRow, h3])
    (fun q hq => by
      obtain ⟨o, h1, h2, h3, h4⟩ := hst q hq
      refine ⟨o, h1, h2, h3, fun a w b hk hb hr => ?_⟩
      obtain ⟨a', ha', hl⟩ := full (o.looksAt l.toArray) a w hk
      -- the variable's own slot
      have hqn : look L' q.d = none := by
        cases hlk : look L' q.d with
        | none => rfl
        | some v =>
          have h5 := hf'.c q.d v hlk
          rcases lookP_envR rs _ q.d _ h5 with ⟨r, h, hrd, _⟩ | ⟨h6, _⟩
          · have := List.all_eq_true.1 hFb r.k (by rw [← e1]; exact List.mem_map_of_mem h)
            simp only [Bool.and_eq_true, decide_eq_true_eq, List.all_eq_true, Bool.not_eq_true', beq_eq_false_iff_ne, ne_eq] at this
            have := (this.2 q hq).2
            simp only [(e2 r h).1, Option.bind_some, (e2 r h).2.1, hrd, not_true] at this
          · rw [hlkc, (hR' q hq).2] at h6; cases h6
      have ha2 : Knows N ds ((q.d, .pointer (some ⟨b, 0, none⟩)) :: L') (a'.put (some q.d) (.pointer (some ⟨b, 0, none⟩))) := ha'.put (by simpa [Nat.blt_eq] using (hR' q hq).1) _
      obtain ⟨w', hrun, hrow, hkp⟩ := h4 _ w b ha2 hr
      refine ⟨w', ?_, hrow, hkp⟩
      rw [← execOp_congr o (Region.noSelect_spec hsel q.kS o · · h1) (eval_of_looks (ops := l.toArray) (a := a) (a' := a'.put (some q.d) (.pointer (some ⟨b, 0, none⟩))) fun t ht => ?_)]
      · exact hrun
      · by_cases hqt : q.d = t
        · subst hqt
          rw [hb]
          simp [Act.put, ha'.size, (hR' q hq).1]
        · simp only [Act.put]
          rw [Array.getElem?_setIfInBounds_ne hqt]
          exact hl t ht)
    (fun a' w' he hk hrows hsep => by
      have hk' : Knows N ds L' a' := ⟨hk.size, hk.defers, fun t v ht => by
        obtain ⟨u, hu, hh⟩ := hk.val t trivial _ (hf'.c t v ht)
        have hh : u = v := hh
        rw [hu, hh]⟩
      obtain ⟨L2, h1, h2⟩ := rowsOut_use (w0 := w) hk.size hk.defers R R [] L' hk' (nodupB_spec hndd) hrows hsep (fun s hs => by cases hs) (hout w' he)
      exact ⟨ds, L2, h1, h2⟩) l.toArray.size (List.range l.toArray.size) (Array.replicate l.toArray.size false) a { w with drawn := w.drawn + 1 } (by simp) List.nodup_range (fun k => ⟨fun hk => ⟨List.mem_range.1 hk, getD_repl _ _⟩, fun hk => List.mem_range.2 hk.1⟩)
    ⟨ha.size, ha.defers, Kp.drew _ _, by simp, fun r _ hd => (by rw [getD_repl] at hd; cases hd), fun t x hx _ _ => by
      rw [hlkc] at hx
      cases hl : look L t with
      | none => rw [hl] at hx; cases hx
      | some v => rw [hl] at hx; cases hx; exact ⟨v, ha.val t v hl, rfl⟩, fun j _ _ hd => (by rw [getD_repl] at hd; cases hd), fun q _ hd => (by rw [getD_repl] at hd; cases hd), fun q _ _ _ _ hd => (by rw [getD_repl] at hd; cases hd)⟩
  refine wp_mono (wp_region_any hm hdone) fun e a' w' hq => ?_
  cases e with
  | normal => exact hq
  | ret => obtain ⟨_, _, _, hz⟩ := hq; exact hz.elim
  | exit i => obtain ⟨_, _, _, hz⟩ := hq; exact hz.elim
  | panic c => obtain ⟨_, _, _, hz⟩ := hq; exact hz.elim
  | goto l => exact hq.elim
  | outgrown => exact hq.elim
end
end Go.Sx
