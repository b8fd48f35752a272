/-
  Regions that draw their order: what only reckons may come up anywhere; what makes or writes memory stands in one chain.
-/
import Derived.Test.YtecmlmngcnionaaSxRows
namespace Go.Sx
open Go Go.RowKit

/-- An operation that only hands a value on, whatever the world. -/
def calmB (ops : Array Oper) (k : Nat) : Bool := match ops[k]? with
  | some ⟨_, .move _, _, _, _, none⟩ | some ⟨_, .assign _, _, _, _, none⟩ => true
  | _ => false
/-- Each waits for the next. -/
def pathB (md : Region.Mode) (ops : Array Oper) : List Nat → Bool
  | i :: j :: r => waitsB md ops i j && pathB md ops (j :: r)
  | _ => true
/-- Whatever asks memory is over before what writes old memory comes up. -/
def dirtyB (md : Region.Mode) (ops : Array Oper) (F D : List Nat) (paths : List (List Nat)) : Bool :=
  F.all fun k => D.all fun j => calmB ops k || paths.any fun p => p.head? == some j && p.contains k && pathB md ops p
def seaB (md : Region.Mode) (ops : Array Oper) (F T : List Nat) : Bool :=
  Region.noSelect ops && ((List.range ops.size).all fun j => F.contains j || T.contains j) && nodupB (F ++ T) && distB ops F && stepsB md ops [] F [] F &&
  (F.all fun k => decide (k < ops.size)) && (T.all fun k => decide (k < ops.size)) &&
  ((List.range ops.size).all fun k => match ops[k]? with | none => false | some o => o.after.all fun e => !Region.binds md e || decide (e.on < k)) &&
  (F.all fun k => match ops[k]? with | none => false | some o => T.all fun j => match ops[j]? with | none => false | some oj => !(oj.dst == o.dst) && (o.looksAt ops).all fun t => !(oj.dst == some t) || waitsB md ops j k) &&
  (T.all fun k => match ops[k]? with | none => false | some o => (o.looksAt ops).all fun t => F.all fun j => !((ops[j]?).bind (·.dst) == some t) || waitsB md ops k j)

/-- Which of these may come next. -/
def heads (md : Region.Mode) (ops : Array Oper) (Tr : List Nat) : List Nat := Tr.filter fun k => Tr.all fun j => !waitsB md ops k j
def AllL {α : Type} (Q : α → Prop) : List α → Prop
  | [] => True
  | x :: r => Q x ∧ AllL Q r
theorem AllL.mem {α : Type} {Q : α → Prop} : ∀ {l : List α}, AllL Q l → ∀ x ∈ l, Q x
  | [], _, _, h => by cases h
  | y :: r, ⟨h1, h2⟩, x, h => by
    rcases List.mem_cons.1 h with rfl | h
    · exact h1
    · exact AllL.mem h2 x h
/-- What acts, one operation after the other in whatever order they may come; between them others may come that only make new blocks. slots: those of which a property alone is known. -/
def SeaWalk (P : Program) (N : Nat) (ops : Array Oper) (md : Region.Mode) (ds : List Deferred) (w0 : World) (PZ : List (Nat × PK)) (slots : List Nat) (D : List Nat) (A : Out) : Nat → List Nat → Env → World → Prop
  | 0, _, L, w => A ds L w
  | n + 1, Tr, L, w => ∃ hs, heads md ops Tr = hs ∧ AllL (fun k => ∃ o rels, ops[k]? = some o ∧ RSub L PZ rels ∧ (rels.all fun q => (o.looksAt ops).contains q.1) = true ∧ (rels.map (·.1)).Nodup ∧
      relOut w (fun L1 => Reg P N ops .seq [o] ds L1 w (fun ds' L' w' => ds' = ds ∧ (D.any (fun j => !(Tr.erase k).contains j) = true ∨ Ext w0 w') ∧ (slots.all fun t => (look L' t).isNone) = true ∧ ∀ w'', Ext w' w'' → SeaWalk P N ops md ds w0 PZ slots D A n (Tr.erase k) L' w'') NoO (fun _ => NoO) NoZ) rels [] L) hs

theorem AllL.nil {α : Type} {Q : α → Prop} : AllL Q [] := trivial
theorem AllL.cons {α : Type} {Q : α → Prop} {x : α} {r : List α} (h : Q x) (hr : AllL Q r) : AllL Q (x :: r) := ⟨h, hr⟩
theorem SeaWalk.done {P : Program} {N : Nat} {ops : Array Oper} {md : Region.Mode} {ds : List Deferred} {w0 : World} {PZ : List (Nat × PK)} {slots D : List Nat} {A : Out} {Tr : List Nat} {L : Env} {w : World} (h : A ds L w) : SeaWalk P N ops md ds w0 PZ slots D A 0 Tr L w := h
theorem SeaWalk.step {P : Program} {N : Nat} {ops : Array Oper} {md : Region.Mode} {ds : List Deferred} {w0 : World} {PZ : List (Nat × PK)} {slots D : List Nat} {A : Out} {n : Nat} {Tr : List Nat} {L : Env} {w : World} (hs : List Nat) (h : heads md ops Tr = hs)
    (hal : AllL (fun k => ∃ o rels, ops[k]? = some o ∧ RSub L PZ rels ∧ (rels.all fun q => (o.looksAt ops).contains q.1) = true ∧ (rels.map (·.1)).Nodup ∧
      relOut w (fun L1 => Reg P N ops .seq [o] ds L1 w (fun ds' L' w' => ds' = ds ∧ (D.any (fun j => !(Tr.erase k).contains j) = true ∨ Ext w0 w') ∧ (slots.all fun t => (look L' t).isNone) = true ∧ ∀ w'', Ext w' w'' → SeaWalk P N ops md ds w0 PZ slots D A n (Tr.erase k) L' w'') NoO (fun _ => NoO) NoZ) rels [] L) hs) :
    SeaWalk P N ops md ds w0 PZ slots D A (n + 1) Tr L w := ⟨hs, h, hal⟩
section
variable {P : Program} {N : Nat} {ops : Array Oper} {md : Region.Mode} {ds : List Deferred} {w0 : World}

/-- The frame, with the values laid over it of what has not come up yet. -/
def over (rs : List Rec) (listed : Array Bool) : List Rec → Act → Act
  | [], a => a
  | r :: l, a => over rs listed l (match r.x with | .c v => if listed.getD r.k false = true then a else a.put (some r.d) v | _ => a)

theorem over_size {rs : List Rec} {listed : Array Bool} : ∀ (l : List Rec) (a : Act), (over rs listed l a).tmps.size = a.tmps.size ∧ (over rs listed l a).defers = a.defers
  | [], a => ⟨rfl, rfl⟩
  | r :: l, a => by
    simp only [over]
    obtain ⟨h1, h2⟩ := over_size (rs := rs) (listed := listed) l (match r.x with | .c v => if listed.getD r.k false = true then a else a.put (some r.d) v | _ => a)
    rw [h1, h2]
    cases r.x with
    | c v =>
      simp only []
      split
      · exact ⟨rfl, rfl⟩
      · exact ⟨by simp [Act.put], rfl⟩
    | _ => exact ⟨rfl, rfl⟩
/-- Where nothing is laid over. -/
theorem over_other {rs : List Rec} {listed : Array Bool} {t : Nat} : ∀ (l : List Rec) (a : Act), (∀ r ∈ l, r.d = t → listed.getD r.k false = true) → (over rs listed l a).tmps[t]? = a.tmps[t]?
  | [], a, _ => rfl
  | r :: l, a, h => by
    simp only [over]
    rw [over_other l _ fun q hq => h q (List.mem_cons_of_mem _ hq)]
    cases hx : r.x with
    | c v =>
      simp only []
      split
      · rfl
      · rename_i hl
        have : r.d ≠ t := fun e => hl (h r (List.mem_cons_self ..) e)
        simp only [Act.put]; rw [Array.getElem?_setIfInBounds_ne this]
    | _ => rfl
/-- Where a value is. -/
theorem over_at {rs : List Rec} {listed : Array Bool} : ∀ (l : List Rec) (a : Act), (∀ r ∈ l, r.d < a.tmps.size) → (∀ r ∈ l, ∀ r' ∈ l, r.k ≠ r'.k → r.d ≠ r'.d) → (∀ r ∈ l, ∀ r' ∈ l, r.k = r'.k → r = r') → ∀ r ∈ l, ∀ v, r.x = .c v → listed.getD r.k false = false → (over rs listed l a).tmps[r.d]? = some v
  | [], _, _, _, _, r, hr, _, _, _ => by cases hr
  | q :: l, a, hn, hd, hu, r, hr, v, hx, hl => by
    simp only [over]
    by_cases hq : r = q
    · subst hq
      simp only [hx, hl, Bool.false_eq_true, if_false]
      by_cases hin : r ∈ l
      · exact over_at l _ (fun q hq => by simp only [Act.put, Array.size_setIfInBounds]; exact hn q (List.mem_cons_of_mem _ hq)) (fun q1 h1 q2 h2 => hd q1 (List.mem_cons_of_mem _ h1) q2 (List.mem_cons_of_mem _ h2)) (fun q1 h1 q2 h2 => hu q1 (List.mem_cons_of_mem _ h1) q2 (List.mem_cons_of_mem _ h2)) r hin v hx hl
      · rw [over_other l _ fun q' hq' e => ?_]
        · simp [Act.put, hn r (List.mem_cons_self ..)]
        · exfalso
          by_cases hk : q'.k = r.k
          · exact hin ((hu q' (List.mem_cons_of_mem _ hq') r (List.mem_cons_self ..) hk) ▸ hq')
          · exact hd q' (List.mem_cons_of_mem _ hq') r (List.mem_cons_self ..) hk e
    · have hin : r ∈ l := by
        rcases List.mem_cons.1 hr with h | h
        · exact absurd h hq
        · exact h
      refine over_at l _ (fun q' hq' => ?_) (fun q1 h1 q2 h2 => hd q1 (List.mem_cons_of_mem _ h1) q2 (List.mem_cons_of_mem _ h2)) (fun q1 h1 q2 h2 => hu q1 (List.mem_cons_of_mem _ h1) q2 (List.mem_cons_of_mem _ h2)) r hin v hx hl
      have := hn q' (List.mem_cons_of_mem _ hq')
      cases q.x with
      | c v =>
        simp only []
        split
        · exact this
        · simp only [Act.put, Array.size_setIfInBounds]; exact this
      | _ => exact this

structure InvS (N : Nat) (ops : Array Oper) (md : Region.Mode) (ds : List Deferred) (w0 : World) (rs : List Rec) (T Tr : List Nat) (slots D : List Nat) (PE0 : List (Nat × PK)) (L : Env) (listed : Array Bool) (a : Act) (w : World) : Prop where
  ext : (∀ j ∈ D, listed.getD j false = false) → Ext w0 w
  lsz : listed.size = ops.size
  asz : a.tmps.size = N
  adf : a.defers = ds
  knows : Knows N ds L (over rs listed rs a)
  slots : (slots.all fun t => (look L t).isNone) = true
  recs : ∀ r ∈ rs, listed.getD r.k false = true → ∃ u, a.tmps[r.d]? = some u ∧ r.x.holds u w
  base : ∀ t x, lookP PE0 t = some x → (∀ r ∈ rs, listed.getD r.k false = true → r.d ≠ t) → (∀ j ∈ T, ∀ oj, ops[j]? = some oj → listed.getD j false = true → oj.dst ≠ some t) → ∃ u, a.tmps[t]? = some u ∧ x.holds u w
  closed : ∀ j oj, ops[j]? = some oj → listed.getD j false = true → ∀ e ∈ oj.after, Region.binds md e = true → listed.getD e.on false = true
  rest : Tr.Nodup ∧ (∀ j ∈ Tr, j ∈ T ∧ listed.getD j false = false) ∧ (∀ j ∈ T, j ∉ Tr → listed.getD j false = true)
theorem relOut_knows {w1 : World} {Q : Env → Prop} {a : Act} : ∀ (rels : List (Nat × PK)) (seen : List Value) (L : Env), Knows N ds L a → (∀ r ∈ rels, (∃ u, a.tmps[r.1]? = some u ∧ r.2.holds u w1) ∧ r.2.isF = false) → relOut w1 Q rels seen L → ∃ L1, Knows N ds L1 a ∧ Q L1
  | [], _, L, hk, _, h => ⟨L, hk, h⟩
  | (t, x) :: r, seen, L, hk, hr, h => by
    obtain ⟨⟨u, hu, hh⟩, hf⟩ := hr (t, x) (List.mem_cons_self ..)
    have hsep : sepF x seen u := by
      cases x with
      | f K => cases hf
      | _ => trivial
    refine relOut_knows r _ ((t, u) :: L) ⟨hk.size, hk.defers, fun s v hs => ?_⟩ (fun q hq => hr q (List.mem_cons_of_mem _ hq)) (h u hh hsep)
    rw [look_cons] at hs
    split at hs
    · rename_i e; subst e; cases hs; exact hu
    · exact hk.val s v hs

/-- One operation of the chain, from a frame that knows all that the walk knows to the true one. -/
theorem op_transfer {o : Oper} {a a' : Act} {w : World} {L1 : Env} {C : Env → World → Prop} {K : Act → World → Prop} {Q : Exit → Act → World → Prop} (hsel : ∀ cs b, o.op ≠ .select cs b) (ha' : Knows N ds L1 a') (hl : ∀ t ∈ o.looksAt ops, a'.tmps[t]? = a.tmps[t]?)
    (h : Reg P N ops .seq [o] ds L1 w (fun ds' L' w' => ds' = ds ∧ C L' w') NoO (fun _ => NoO) NoZ)
    (fin : ∀ u w2 L2, Knows N ds L2 (a'.put o.dst u) → C L2 w2 → K (a.put o.dst u) w2) :
    if Region.wanted o (yielded ops a.tmps) then o.wp P a w K Q ∨ (o.asks P a w ∧ LetsOut Q) else K (a.put o.dst undef) w := by
  have h1 := h a' ha'
  have hput : ∀ (u : Value), (a'.put o.dst u).defers = ds := fun u => by
    cases o.dst <;> exact ha'.defers
  have fin' : ∀ (u : Value) (w2 : World), lift N (fun ds' L' w' => ds' = ds ∧ C L' w') NoO (fun _ => NoO) NoZ .normal (a'.put o.dst u) w2 → K (a.put o.dst u) w2 := by
    rintro u w2 ⟨ds2, L2, hk, rfl, hC⟩
    exact fin u w2 L2 hk hC
  have hwd := wanted_of_looks (ops := ops) hl
  simp only [wpList, hwd] at h1
  split
  · rename_i hwt
    rw [if_pos hwt] at h1
    replace h1 := h1.resolve_right fun hh => noLets hh.2
    refine .inl ?_
    unfold Oper.wp at h1 ⊢
    rw [execOp_congr o hsel (eval_of_looks hl)] at h1
    generalize (execOp a.eval o).run P w = r at h1
    cases r with
    | ok n w2 =>
      cases n <;> simp only [Oper.upon] at h1 ⊢
      case value u => exact fin' u w2 h1
      case skip => exact fin' _ w2 h1
      case defer dd =>
        obtain ⟨ds2, L2, hk, rfl, _⟩ := h1
        have h2 := hk.defers
        have h3 : ({ a' with defers := dd :: a'.defers }.put o.dst undef).defers = dd :: a'.defers := by cases o.dst <;> rfl
        rw [h3, ha'.defers] at h2
        exact absurd (congrArg List.length h2) (by simp)
      case enter f args =>
        refine Calls.mono h1 fun e w3 he => ?_
        cases e with
        | returned u => exact fin' u w3 he
        | panicked c => obtain ⟨_, _, _, hz⟩ := he; exact hz.elim
        | outgrown => exact absurd he noLets
      case row row args => exact Rows.mono h1 fun u w3 he => fin' u w3 he
    | halt x w2 =>
      cases x <;> simp only [Oper.upon] at h1 ⊢
      case panic u => obtain ⟨_, _, _, hz⟩ := h1; exact hz.elim
  · rename_i hwt
    rw [if_neg hwt] at h1
    exact fin' _ w h1

theorem chainL_suffix : ∀ (Td Tr : List Nat), chainL md ops (Td ++ Tr) = true → chainL md ops Tr = true
  | [], _, h => h
  | [a], Tr, h => by
    cases Tr with
    | nil => rfl
    | cons b r => simp only [List.cons_append, List.nil_append, chainL, Bool.and_eq_true] at h; exact h.2
  | a :: b :: Td, Tr, h => by
    simp only [List.cons_append, chainL, Bool.and_eq_true] at h
    exact chainL_suffix (b :: Td) Tr h.2

theorem pathB_listed {md : Region.Mode} {ops : Array Oper} {listed : Array Bool} (hc : ∀ j oj, ops[j]? = some oj → listed.getD j false = true → ∀ e ∈ oj.after, Region.binds md e = true → listed.getD e.on false = true) : ∀ (p : List Nat) (j : Nat), pathB md ops p = true → p.head? = some j → listed.getD j false = true → ∀ k ∈ p, listed.getD k false = true
  | [], _, _, h, _ => by cases h
  | [i], j, _, h, hl => fun k hk => by
    simp at h hk; subst h; subst hk; exact hl
  | i :: i' :: r, j, hp, h, hl => fun k hk => by
    simp at h; subst h
    simp only [pathB, Bool.and_eq_true] at hp
    obtain ⟨o', ho', e, hee, hbd, heo⟩ := waitsB_spec hp.1
    have h1 := hc i o' ho' hl e hee hbd
    rw [heo] at h1
    rcases List.mem_cons.1 hk with rfl | hk
    · exact hl
    · exact pathB_listed hc (i' :: r) i' hp.2 rfl h1 k hk
theorem calm_step {P : Program} {ops : Array Oper} {k : Nat} {o : Oper} {a : Act} {w0 w : World} {x : PK} (hc : calmB ops k = true) (ho : ops[k]? = some o) (hx : x.pure) (h : Step1 P ops o a w0 x) : Step1 P ops o a w x := by
  unfold calmB at hc
  rw [ho] at hc
  obtain ⟨d, op, ty, pos, af, g⟩ := o
  split at hc
  · rename_i he
    cases he
    simp only [Step1, Region.wanted, if_true, Oper.wp, execOp, Sem.run_pure, Oper.upon] at h ⊢
    obtain ⟨v, h1, h2, h3, h4⟩ := h
    exact ⟨v, h1, Kp.refl _ _, hx.any h3, by cases x <;> first | trivial | exact hx.elim⟩
  · rename_i he
    cases he
    simp only [Step1, Region.wanted, if_true, Oper.wp, execOp, Sem.run_pure, Oper.upon] at h ⊢
    obtain ⟨v, h1, h2, h3, h4⟩ := h
    exact ⟨v, h1, Kp.refl _ _, hx.any h3, by cases x <;> first | trivial | exact hx.elim⟩
  · cases hc
theorem sea_phase {F T slots D : List Nat} {rs : List Rec} {PE0 PZ : List (Nat × PK)} {A : Out} (paths : List (List Nat)) (hDT : D.all (fun j => T.contains j) = true) (hDB : dirtyB md ops F D paths = true) (hB : seaB md ops F T = true)
    (hrs : rs.map (·.k) = F) (hr : ∀ r ∈ rs, ops[r.k]? = some r.o ∧ r.o.dst = some r.d ∧ r.d < N ∧ r.x.stays) (hrc : ∀ r ∈ rs, r.x.pure) (hno : ∀ t x, lookP PE0 t = some x → ∃ v, x = .c v)
    (hob : ∀ pre r post, rs = pre ++ r :: post → Ob P N ops ds w0 (envR pre PE0) r.o r.x)
    (hPZ : ∀ t x, lookP PZ t = some x → ∃ r ∈ rs, r.d = t ∧ r.x = x) (hsl : ∀ r ∈ rs, (∃ v, r.x = .c v) ∨ r.d ∈ slots) :
    ∀ (n : Nat) (rem : List Nat) (listed : Array Bool) (a : Act) (w : World) (L : Env) (Tr : List Nat), rem.length = n → rem.Nodup → (∀ k, k ∈ rem ↔ k < ops.size ∧ listed.getD k false = false) → InvS N ops md ds w0 rs T Tr slots D PE0 L listed a w →
      (∀ w'', Ext w w'' → SeaWalk P N ops md ds w0 PZ slots D A Tr.length Tr L w'') → wpAny P md ops (lift N A NoO (fun _ => NoO) NoZ) n listed a w := by
  simp only [seaB, Bool.and_eq_true] at hB
  obtain ⟨⟨⟨⟨⟨⟨⟨⟨⟨hsel, hall⟩, hnd⟩, hdi⟩, hsteps⟩, hFlt⟩, hTlt⟩, hlow⟩, hFT⟩, hTF⟩ := hB
  have hkF : ∀ r ∈ rs, r.k ∈ F := fun r h => by rw [← hrs]; exact List.mem_map_of_mem h
  have hFk : ∀ k ∈ F, ∃ r ∈ rs, r.k = k := fun k h => by rw [← hrs] at h; simpa using h
  have hFs : ∀ j ∈ F, j < ops.size := fun j hj => by simpa using List.all_eq_true.1 hFlt j hj
  have hTs : ∀ j ∈ T, j < ops.size := fun j hj => by simpa using List.all_eq_true.1 hTlt j hj
  have hndall := nodupB_spec hnd
  have hdisj : ∀ j ∈ F, j ∉ T := fun j hj hT => (List.nodup_append.1 hndall).2.2 j hj j hT rfl
  have hlts : ∀ k, k < ops.size → ∀ o, ops[k]? = some o → ∀ e ∈ o.after, Region.binds md e = true → e.on < k := fun k hk o ho e he hbd => by
    have := List.all_eq_true.1 hlow k (List.mem_range.2 hk)
    simp only [ho] at this
    have := Array.all_eq_true_iff_forall_mem.1 this e he
    simpa [hbd] using this
  have hFT' : ∀ r ∈ rs, ∀ j ∈ T, ∀ oj, ops[j]? = some oj → oj.dst ≠ some r.d ∧ ∀ t ∈ r.o.looksAt ops, oj.dst = some t → waitsB md ops j r.k = true := fun r h j hj oj hoj => by
    have := List.all_eq_true.1 hFT r.k (hkF r h)
    simp only [(hr r h).1] at this
    have := List.all_eq_true.1 this j hj
    simp only [hoj, Bool.and_eq_true, Bool.not_eq_true', beq_eq_false_iff_ne, ne_eq, (hr r h).2.1] at this
    refine ⟨this.1, fun t ht hd => ?_⟩
    have := List.all_eq_true.1 this.2 t ht
    simpa [hd] using this
  have hTF' : ∀ k ∈ T, ∀ o, ops[k]? = some o → ∀ t ∈ o.looksAt ops, ∀ r ∈ rs, r.d = t → waitsB md ops k r.k = true := fun k hk o ho t ht r h hd => by
    have := List.all_eq_true.1 hTF k hk
    simp only [ho] at this
    have := List.all_eq_true.1 (List.all_eq_true.1 this t ht) r.k (hkF r h)
    simpa [(hr r h).1, (hr r h).2.1, hd] using this
  have hdi' : ∀ r ∈ rs, ∀ r' ∈ rs, r.k ≠ r'.k → r.d ≠ r'.d := fun r h r' h' hne he => by
    have := List.all_eq_true.1 (List.all_eq_true.1 hdi r.k (hkF r h)) r'.k (hkF r' h')
    simp only [(hr r h).1, (hr r' h').1, Option.bind_some, (hr r h).2.1, (hr r' h').2.1, he, BEq.rfl, Bool.not_true, Bool.or_false, beq_iff_eq] at this
    exact hne this
  have hndF : (rs.map (·.k)).Nodup := by rw [hrs]; exact (List.nodup_append.1 hndall).1
  have huniq : ∀ r ∈ rs, ∀ r' ∈ rs, r.k = r'.k → r = r' := fun x hx y hy he => by
    obtain ⟨i, hi, rfl⟩ := List.mem_iff_getElem.1 hx
    obtain ⟨j, hj, rfl⟩ := List.mem_iff_getElem.1 hy
    have : i = j := by
      have h1 := List.getElem_inj (xs := rs.map (·.k)) (i := i) (j := j) (h₀ := by simpa using hi) (h₁ := by simpa using hj) hndF
      exact h1.1 (by simpa using he)
    subst this; rfl
  have hcond : ∀ pre r post, rs = pre ++ r :: post → condB md ops [] F (pre.map (·.k)) r.k = true := fun pre r post e => by
    have := stepsB_spec hsteps (pre.map (·.k)) r.k (post.map (·.k)) (by rw [← hrs, e]; simp)
    simpa using this
  intro n
  induction n with
  | zero =>
    intro rem listed a w L Tr hl _ hrem inv hsea
    have he : rem = [] := List.eq_nil_of_length_eq_zero hl
    have done : ∀ k, k < ops.size → listed.getD k false = true := fun k hk => by
      cases hb : listed.getD k false with
      | true => rfl
      | false => have := (hrem k).2 ⟨hk, hb⟩; rw [he] at this; cases this
    have hTr : Tr = [] := by
      obtain ⟨_, h2, _⟩ := inv.rest
      cases Tr with
      | nil => rfl
      | cons t r =>
        have h3 := h2 t (List.mem_cons_self ..)
        rw [done t (hTs t h3.1)] at h3; cases h3.2
    subst hTr
    refine ⟨?_, ds, L, ⟨inv.asz, inv.adf, fun t v ht => ?_⟩, hsea w (Kp.refl _ _)⟩
    · refine List.eq_nil_iff_forall_not_mem.2 fun k hk => ?_
      obtain ⟨h0, o, ho, _⟩ := mem_ready.1 hk
      have hk' : k < ops.size := (Array.getElem?_eq_some_iff.1 ho).1
      have := done k hk'
      rw [getD_of (by rw [inv.lsz]; exact hk') true false, this] at h0; cases h0
    · have := inv.knows.val t v ht
      rw [over_other rs a fun r h _ => done _ (hFs _ (hkF r h))] at this
      exact this
  | succ n ih =>
    intro rem listed a w L Tr hl hrn hrem inv hsea
    have hgd : ∀ i, i < ops.size → listed.getD i true = listed.getD i false := fun i hi => getD_of (by rw [inv.lsz]; exact hi) _ _
    have hne : rem ≠ [] := fun h => by rw [h] at hl; cases hl
    obtain ⟨k0, hk0⟩ := List.exists_mem_of_ne_nil rem hne
    refine ⟨fun h0 => ?_, fun i hi => ?_⟩
    · exfalso
      have key : ∀ m k, k < ops.size → k < m → listed.getD k false = true := by
        intro m
        induction m with
        | zero => intro k _ hm; omega
        | succ m ihm =>
          intro k hk hm
          cases hb : listed.getD k false with
          | true => rfl
          | false =>
            obtain ⟨o, ho⟩ : ∃ o, ops[k]? = some o := ⟨ops[k], by simp [hk]⟩
            have : k ∈ Region.ready md ops listed := mem_ready.2 ⟨by rw [hgd k hk]; exact hb, o, ho, fun e he hbd => by
              have := hlts k hk o ho e he hbd
              exact ihm e.on (by omega) (by omega)⟩
            rw [h0] at this; cases this
      have := key (k0 + 1) k0 ((hrem k0).1 hk0).1 (by omega)
      rw [((hrem k0).1 hk0).2] at this; cases this
    · obtain ⟨hi0, oi, hoi, hiall⟩ := mem_ready.1 hi
      have his : i < ops.size := (Array.getElem?_eq_some_iff.1 hoi).1
      rw [hgd i his] at hi0
      have waits_done : ∀ j, waitsB md ops i j = true → listed.getD j false = true := fun j hj => by
        obtain ⟨o', ho', e, he, hbd, rfl⟩ := waitsB_spec hj
        rw [hoi] at ho'; cases ho'
        exact hiall e he hbd
      have hlsz : i < listed.size := by rw [inv.lsz]; exact his
      have hset : ∀ j, j ≠ i → (listed.setIfInBounds i true).getD j false = listed.getD j false := fun j hj => getD_set_ne false (Ne.symm hj)
      have hself : (listed.setIfInBounds i true).getD i false = true := by simp [hlsz]
      have hrem' : ∀ k, k ∈ rem.erase i ↔ k < ops.size ∧ (listed.setIfInBounds i true).getD k false = false := fun k => by
        rw [hrn.mem_erase_iff, hrem]
        constructor
        · rintro ⟨h5, h6, h7⟩; exact ⟨h6, by rw [hset k h5]; exact h7⟩
        · rintro ⟨h5, h6⟩
          by_cases hk : k = i
          · subst hk; rw [hself] at h6; cases h6
          · exact ⟨hk, h5, by rw [hset k hk] at h6; exact h6⟩
      have hlen : (rem.erase i).length = n := by rw [List.length_erase_of_mem ((hrem _).2 ⟨his, hi0⟩), hl]; rfl
      have hclosed : ∀ j oj, ops[j]? = some oj → (listed.setIfInBounds i true).getD j false = true → ∀ e ∈ oj.after, Region.binds md e = true → (listed.setIfInBounds i true).getD e.on false = true := fun j oj hj hd e hee hbd => by
        by_cases hk : j = i
        · subst hk
          rw [hoi] at hj; cases hj
          exact getD_set_true (hiall e hee hbd)
        · rw [hset _ hk] at hd
          exact getD_set_true (inv.closed j oj hj hd e hee hbd)
      -- what lies over the frame, before and after
      have hover : ∀ (u : Value) (L2 : Env) (t : Nat) (v : Value), (slots.all fun t => (look L2 t).isNone) = true → look L2 t = some v → (∀ r ∈ rs, r.d = t → r.k ≠ i) → (∀ r ∈ rs, oi.dst ≠ some r.d ∨ r.k = i) →
          (over rs (listed.setIfInBounds i true) rs (a.put oi.dst u)).tmps[t]? = ((over rs listed rs a).put oi.dst u).tmps[t]? := by
        intro u L2 t v hs hlk hti hdd
        have hputt : ∀ (b : Act), b.tmps.size = N → oi.dst ≠ some t → (b.put oi.dst u).tmps[t]? = b.tmps[t]? := fun b _ hne => by
          cases hd : oi.dst with
          | none => rfl
          | some d => simp only [Act.put]; rw [Array.getElem?_setIfInBounds_ne (fun e => hne (by rw [hd, e]))]
        by_cases hex : ∃ r ∈ rs, r.d = t ∧ listed.getD r.k false = false
        · obtain ⟨r, h, hd, hu⟩ := hex
          have hri := hti r h hd
          rcases hsl r h with ⟨v0, hv0⟩ | hsl'
          · have hdt : oi.dst ≠ some t := by
              rcases hdd r h with h9 | h9
              · rw [← hd]; exact h9
              · exact absurd h9 hri
            have h1 := over_at (rs := rs) (listed := listed.setIfInBounds i true) rs (a.put oi.dst u) (fun q hq => by
              have : (a.put oi.dst u).tmps.size = N := by cases oi.dst <;> simp [Act.put, inv.asz]
              rw [this]; exact (hr q hq).2.2.1) hdi' huniq r h v0 hv0 (by rw [hset _ hri]; exact hu)
            have h2 := over_at (rs := rs) (listed := listed) rs a (fun q hq => by rw [inv.asz]; exact (hr q hq).2.2.1) hdi' huniq r h v0 hv0 hu
            rw [hputt _ inv.knows.size hdt, ← hd, h1]
            exact h2.symm
          · have := List.all_eq_true.1 hs r.d hsl'
            rw [hd, hlk] at this; cases this
        · have hl1 : ∀ r ∈ rs, r.d = t → listed.getD r.k false = true := fun r h hd => by
            cases hb : listed.getD r.k false with
            | true => rfl
            | false => exact absurd ⟨r, h, hd, hb⟩ hex
          have hl2 : ∀ r ∈ rs, r.d = t → (listed.setIfInBounds i true).getD r.k false = true := fun r h hd => getD_set_true (hl1 r h hd)
          rw [over_other rs _ hl2]
          cases hd : oi.dst with
          | none => simp only [Act.put]; rw [over_other rs _ hl1]
          | some d =>
            by_cases hdt : d = t
            · subst hdt
              simp [Act.put, Array.getElem?_setIfInBounds, (over_size rs a).1]
            · simp only [Act.put]
              rw [Array.getElem?_setIfInBounds_ne hdt, Array.getElem?_setIfInBounds_ne hdt, over_other rs _ hl1]
      have hcase := List.all_eq_true.1 hall i (List.mem_range.2 his)
      simp only [Bool.or_eq_true, List.contains_eq_mem, decide_eq_true_eq] at hcase
      rcases hcase with hiF | hiT
      · obtain ⟨r, hrm, hrk⟩ := hFk i hiF
        subst hrk
        obtain ⟨h1, h2, h3, h4⟩ := hr r hrm
        rw [hoi] at h1; cases h1
        obtain ⟨pre, post, he⟩ := List.append_of_mem hrm
        have hc := hcond pre r post he
        simp only [condB, hoi, Bool.and_eq_true] at hc
        have hkn : KnowsP N ds (envR pre PE0) a w (fun t => t ∈ r.o.looksAt ops) := by
          refine ⟨inv.asz, inv.adf, fun t ht x hx => ?_, fun t t' x x' _ _ _ hx _ hf _ => ?_⟩
          · have hct := List.all_eq_true.1 hc.2 t ht
            have hq : ∀ q ∈ rs, q.d = t → (bif (pre.map (·.k)).contains q.k then waitsB md ops r.k q.k else (q.k == r.k || waitsB md ops q.k r.k)) = true := fun q hq hqt => by
              have := List.all_eq_true.1 hct q.k (hkF q hq)
              simpa [(hr q hq).1, (hr q hq).2.1, hqt] using this
            rcases lookP_envR pre PE0 t x hx with ⟨q, hqm, hqd, rfl⟩ | ⟨h5, h6⟩
            · have hqr : q ∈ rs := by rw [he]; exact List.mem_append_left _ hqm
              have := hq q hqr hqd
              rw [show (pre.map (·.k)).contains q.k = true by simp only [List.contains_eq_mem, decide_eq_true_eq]; exact List.mem_map_of_mem hqm] at this
              simp only [cond_true] at this
              rw [← hqd]
              exact inv.recs q hqr (waits_done _ this)
            · refine inv.base t x h5 (fun q hqr hqdn hqd => ?_) fun j hj oj hoj hdn hd => ?_
              · have := hq q hqr hqd
                by_cases hqp : q ∈ pre
                · exact h6 q hqp hqd
                · have hnc : (pre.map (·.k)).contains q.k = false := by
                    simp only [List.contains_eq_mem, decide_eq_false_iff_not]
                    intro hm
                    obtain ⟨q', hq', hqe⟩ := List.mem_map.1 hm
                    have := huniq q' (by rw [he]; exact List.mem_append_left _ hq') q hqr hqe
                    subst this; exact hqp hq'
                  rw [hnc] at this
                  simp only [cond_false, Bool.or_eq_true, beq_iff_eq] at this
                  rcases this with h7 | h7
                  · rw [h7, hi0] at hqdn; cases hqdn
                  · obtain ⟨o', ho', e, hee, hbd, heo⟩ := waitsB_spec h7
                    have := inv.closed q.k o' ho' hqdn e hee hbd
                    rw [heo, hi0] at this; cases this
              · obtain ⟨o', ho', e, hee, hbd, heo⟩ := waitsB_spec ((hFT' r hrm j hj oj hoj).2 t ht hd)
                have := inv.closed j o' ho' hdn e hee hbd
                rw [heo, hi0] at this; cases this
          · exfalso
            rcases lookP_envR pre PE0 t x hx with ⟨r', h, _, rfl⟩ | ⟨h1, _⟩
            · rw [(hrc r' (by rw [he]; exact List.mem_append_left _ h)).isF] at hf; cases hf
            · obtain ⟨v, rfl⟩ := hno t x h1; cases hf
        have hSt : Step1 P ops r.o a w r.x := by
          by_cases hcalm : calmB ops r.k = true
          · have hkn0 : KnowsP N ds (envR pre PE0) a w0 (fun t => t ∈ r.o.looksAt ops) := by
              refine ⟨hkn.size, hkn.defers, fun t ht x hx => ?_, hkn.sep⟩
              obtain ⟨u, hu, hh⟩ := hkn.val t ht x hx
              refine ⟨u, hu, ?_⟩
              have hxp : x.pure := by
                rcases lookP_envR pre PE0 t x hx with ⟨r', h, _, rfl⟩ | ⟨h1, _⟩
                · exact hrc r' (by rw [he]; exact List.mem_append_left _ h)
                · obtain ⟨v, rfl⟩ := hno t x h1; trivial
              exact hxp.any hh
            exact calm_step hcalm hoi (hrc r hrm) (hob pre r post he (Region.noSelect_spec hsel r.k r.o · · hoi) a w0 (Kp.refl _ _) hkn0)
          · refine hob pre r post he (Region.noSelect_spec hsel r.k r.o · · hoi) a w (inv.ext fun j hj => ?_) hkn
            cases hb : listed.getD j false with
            | false => rfl
            | true =>
              exfalso
              have h9 := List.all_eq_true.1 (List.all_eq_true.1 hDB r.k hiF) j hj
              simp only [Bool.or_eq_true, List.any_eq_true, Bool.and_eq_true, beq_iff_eq, List.contains_eq_mem, decide_eq_true_eq] at h9
              rcases h9 with h9 | ⟨p, _, ⟨hh, hk⟩, hp⟩
              · exact hcalm h9
              · have := pathB_listed inv.closed p j hp hh hb r.k hk
                rw [hi0] at this; cases this
        have fin : ∀ v w2, Ext w w2 → r.x.holds v w2 → wpAny P md ops (lift N A NoO (fun _ => NoO) NoZ) n (listed.setIfInBounds r.k true) (a.put r.o.dst v) w2 := by
          intro v w2 hx hv
          have hput : ∀ t, t ≠ r.d → (a.put r.o.dst v).tmps[t]? = a.tmps[t]? := fun t ht => by
            rw [h2]; simp only [Act.put]; rw [Array.getElem?_setIfInBounds_ne (Ne.symm ht)]
          have hTk : ∀ j ∈ T, j ≠ r.k := fun j hj e => hdisj _ hiF (e ▸ hj)
          refine ih _ _ _ _ L Tr hlen (hrn.erase _) hrem' ⟨fun hD => (inv.ext fun j hj => by
            by_cases hji : j = r.k
            · rw [hji]; exact hi0
            · have := hD j hj; rw [hset _ hji] at this; exact this).trans hx, by simp [inv.lsz], by rw [h2]; simp [Act.put, inv.asz], by rw [h2]; exact inv.adf, ⟨by rw [(over_size rs _).1, h2]; simp [Act.put, inv.asz], by rw [(over_size rs _).2, h2]; exact inv.adf, fun t u ht => ?_⟩, inv.slots, fun q hq hd => ?_, fun t x hx' hd hd2 => ?_, hclosed, ?_⟩ fun w'' he'' => hsea w'' (hx.trans he'')
          · by_cases htd : t = r.d
            · subst htd
              rcases hsl r hrm with ⟨v0, hv0⟩ | hs
              · have h5 := over_at (rs := rs) (listed := listed) rs a (fun q hq => by rw [inv.asz]; exact (hr q hq).2.2.1) hdi' huniq r hrm v0 hv0 hi0
                have h6 := inv.knows.val _ _ ht
                rw [h5] at h6
                have h7 : v = v0 := by rw [hv0] at hv; exact hv
                rw [over_other rs _ fun q hq hqd => ?_]
                · rw [h2]; simp [Act.put, inv.asz, h3, h7]; exact Option.some.inj h6
                · by_cases hk : q.k = r.k
                  · rw [hk]; exact hself
                  · exact absurd hqd (hdi' q hq r hrm hk)
              · have := List.all_eq_true.1 inv.slots r.d hs
                rw [ht] at this; cases this
            · rw [hover v L t u inv.slots ht (fun q hq hqd hk => htd (by rw [← hqd, huniq q hq r hrm hk])) (fun q hq => by
                by_cases hk : q.k = r.k
                · exact .inr hk
                · exact .inl (by rw [h2]; exact fun e => hdi' q hq r hrm hk (Option.some.inj e).symm))]
              rw [h2]; simp only [Act.put]; rw [Array.getElem?_setIfInBounds_ne (Ne.symm htd)]
              exact inv.knows.val t u ht
          · by_cases hk : q.k = r.k
            · have := huniq q hq r hrm hk
              subst this
              exact ⟨v, by rw [h2]; simp [Act.put, inv.asz, h3], hv⟩
            · rw [hset _ hk] at hd
              obtain ⟨u, hu, hh⟩ := inv.recs q hq hd
              exact ⟨u, by rw [hput _ (hdi' q hq r hrm hk)]; exact hu, (hrc q hq).any hh⟩
          · have hrt : r.d ≠ t := hd r hrm hself
            obtain ⟨u, hu, hh⟩ := inv.base t x hx' (fun q hq hqd => by
              by_cases hk : q.k = r.k
              · have := huniq q hq r hrm hk
                subst this; exact hrt
              · exact hd q hq (by rw [hset _ hk]; exact hqd)) (fun j hj oj hoj hdn => hd2 j hj oj hoj (by rw [hset _ (hTk j hj)]; exact hdn))
            obtain ⟨v1, rfl⟩ := hno t x hx'
            exact ⟨u, by rw [hput _ (Ne.symm hrt)]; exact hu, hh⟩
          · obtain ⟨h4, h5, h6⟩ := inv.rest
            exact ⟨h4, fun j hj => ⟨(h5 j hj).1, by rw [hset _ (hTk j (h5 j hj).1)]; exact (h5 j hj).2⟩, fun j hj hn => getD_set_true (h6 j hj hn)⟩
        unfold wpOp
        simp only [hoi]
        simp only [Step1] at hSt
        split
        · rename_i hwt
          rw [if_pos hwt] at hSt
          exact .inl (wp_weaken (fun a2 w2 ⟨v, e, hx, hv, _⟩ => by subst e; exact fin v w2 hx hv) hSt)
        · rename_i hwt
          rw [if_neg hwt] at hSt
          exact fin undef w (Kp.refl _ _) hSt
      · obtain ⟨hTn, hTr, hTd⟩ := inv.rest
        have hiTr : i ∈ Tr := by
          by_cases h : i ∈ Tr
          · exact h
          · rw [hTd i hiT h] at hi0; cases hi0
        have hihd : i ∈ heads md ops Tr := by
          refine List.mem_filter.2 ⟨hiTr, List.all_eq_true.2 fun j hj => ?_⟩
          cases hw : waitsB md ops i j with
          | false => rfl
          | true => have := waits_done j hw; rw [(hTr j hj).2] at this; cases this
        have hlenT : Tr.length = (Tr.erase i).length + 1 := by
          rw [List.length_erase_of_mem hiTr]
          have := List.length_pos_of_mem hiTr
          omega
        · skip
          have hsea0 := hsea w (Kp.refl _ _)
          rw [hlenT] at hsea0
          simp only [SeaWalk] at hsea0
          obtain ⟨hs, hhs, hal⟩ := hsea0
          rw [hhs] at hihd
          obtain ⟨o, rels, ho, hsub, hlk, hndr, hout⟩ := hal.mem i hihd
          rw [hoi] at ho; cases ho
          have hlooks : ∀ t ∈ oi.looksAt ops, (over rs listed rs a).tmps[t]? = a.tmps[t]? := fun t ht => over_other rs a fun r h hd => waits_done _ (hTF' i hiT oi hoi t ht r h hd)
          obtain ⟨L1, hk1, hreg⟩ := relOut_knows rels [] L inv.knows (fun q hq => by
            obtain ⟨h5, h6⟩ := hsub.get q hq
            obtain ⟨r, h, hd, hx⟩ := hPZ q.1 q.2 h5
            have hqt : q.1 ∈ oi.looksAt ops := by simpa using List.all_eq_true.1 hlk q hq
            obtain ⟨u, hu, hh⟩ := inv.recs r h (waits_done _ (hTF' i hiT oi hoi q.1 hqt r h hd))
            rw [hd] at hu; rw [hx] at hh
            exact ⟨⟨u, by rw [hlooks _ hqt]; exact hu, hh⟩, by rw [← hx]; exact (hrc r h).isF⟩) hout
          unfold wpOp
          simp only [hoi]
          have hfk : ∀ r ∈ rs, r.k ≠ i := fun r h e => hdisj _ (hkF r h) (e ▸ hiT)
          refine op_transfer (C := fun L' w' => (D.any (fun j => !(Tr.erase i).contains j) = true ∨ Ext w0 w') ∧ (slots.all fun t => (look L' t).isNone) = true ∧ ∀ w'', Ext w' w'' → SeaWalk P N ops md ds w0 PZ slots D A (Tr.erase i).length (Tr.erase i) L' w'') (Region.noSelect_spec hsel i oi · · hoi) hk1 hlooks hreg fun u w2 L2 hk2 ⟨hx, hs2, hcont⟩ => ?_
          have hdd : ∀ r ∈ rs, oi.dst ≠ some r.d := fun r h => (hFT' r h i hiT oi hoi).1
          have hput : ∀ t, oi.dst ≠ some t → (a.put oi.dst u).tmps[t]? = a.tmps[t]? := fun t hne => by
            cases hd : oi.dst with
            | none => rfl
            | some d => simp only [Act.put]; rw [Array.getElem?_setIfInBounds_ne (fun e => hne (by rw [hd, e]))]
          have hextn : (∀ j ∈ D, (listed.setIfInBounds i true).getD j false = false) → Ext w0 w2 := fun hD => hx.resolve_left fun hdirty => by
            obtain ⟨j, hj, hjt⟩ := List.any_eq_true.1 hdirty
            have hjT : j ∈ T := by simpa using List.all_eq_true.1 hDT j hj
            have h9 := hD j hj
            have hjn : j ∉ Tr.erase i := by simpa using hjt
            by_cases hji : j = i
            · subst hji; rw [hself] at h9; cases h9
            · have hjn' : j ∉ Tr := fun h => hjn ((List.mem_erase_of_ne hji).2 h)
              have := getD_set_true (i := i) (hTd j hjT hjn')
              rw [this] at h9; cases h9
          refine ih _ _ _ _ L2 (Tr.erase i) hlen (hrn.erase _) hrem' ⟨hextn, by simp [inv.lsz], by cases oi.dst <;> simp [Act.put, inv.asz], by cases oi.dst <;> exact inv.adf, ⟨by rw [(over_size rs _).1]; cases oi.dst <;> simp [Act.put, inv.asz], by rw [(over_size rs _).2]; cases oi.dst <;> exact inv.adf, fun t v ht => ?_⟩, hs2, fun r h hd => ?_, fun t x hx' hd hd2 => ?_, hclosed, ?_⟩ hcont
          · rw [hover u L2 t v hs2 ht (fun r h _ => hfk r h) (fun r h => .inl (hdd r h))]
            exact hk2.val t v ht
          · rw [hset _ (hfk r h)] at hd
            obtain ⟨y, hy, hh⟩ := inv.recs r h hd
            exact ⟨y, by rw [hput _ (hdd r h)]; exact hy, (hrc r h).any hh⟩
          · obtain ⟨y, hy, hh⟩ := inv.base t x hx' (fun r h hqd => hd r h (by rw [hset _ (hfk r h)]; exact hqd)) (fun j hj oj hoj hdn => by
              by_cases hji : j = i
              · subst hji; rw [hi0] at hdn; cases hdn
              · exact hd2 j hj oj hoj (by rw [hset _ hji]; exact hdn))
            obtain ⟨v1, rfl⟩ := hno t x hx'
            exact ⟨y, by rw [hput _ (hd2 i hiT oi hoi hself)]; exact hy, hh⟩
          · refine ⟨hTn.erase _, fun j hj => ?_, fun j hj hn => ?_⟩
            · obtain ⟨hne, hj⟩ := hTn.mem_erase_iff.1 hj
              exact ⟨(hTr j hj).1, by rw [hset _ hne]; exact (hTr j hj).2⟩
            · by_cases hji : j = i
              · subst hji; exact hself
              · exact getD_set_true (hTd j hj fun h => hn ((List.mem_erase_of_ne hji).2 h))
/-- An operation of which a property is known, whatever the world. -/
theorem Reg.relX {o : Oper} {d : Nat} {rest : List Oper} {L : Env} {w : World} {A B : Out} {X : Nat → Out} {Z : List PanicEntry → Out} {PR PZ : List (Nat × PK)} (K : Value → Prop) (hd : o.dst = some d) (hN : Nat.blt d N = true) (hld : look L d = none)
    (h : ∀ w1, Ext w w1 → Reg P N ops .seq [o] ds L w1 (Post ds d (.p fun v _ => K v) w1) NoO (fun _ => NoO) NoZ)
    (k : Reg P N ops (.fix ((d, .p fun v _ => K v) :: PR) PZ) rest ds L w A B X Z) : Reg P N ops (.fix PR PZ) (o :: rest) ds L w A B X Z := by
  intro PE hf
  refine ⟨d, .p fun v _ => K v, hd, hN, fun _ _ _ h => h, fun hs a w1 he hk => ?_, k _ (hf.putP hld fun _ _ _ _ h => h)⟩
  exact step1_of_reg hd hs hk.size hk.defers hf.n (fun t v ht hS => by
    obtain ⟨y, hy, hh⟩ := hk.val t hS _ (hf.c t v ht)
    have hh : y = v := hh
    rw [hy, hh]) (h w1 he)

/-- Where all that only reckons has been reckoned. -/
def SeaEnd (P : Program) (N : Nat) (ops : Array Oper) (ds : List Deferred) (w : World) (F T slots D : List Nat) (PZ : List (Nat × PK)) (A : Out) (ds' : List Deferred) (L0 : Env) (_ : World) : Prop :=
  ds' = ds ∧ (F.all fun k => match (ops[k]?).bind (·.dst) with | some d => (look L0 d).isSome || slots.contains d | none => false) = true ∧ (slots.all fun t => (look L0 t).isNone) = true ∧ ∀ w'', Ext w w'' → SeaWalk P N ops .any ds w PZ slots D A T.length T L0 w''

theorem cw_regSea {id : Nat} {l : List Oper} {L : Env} {w : World} {A B : Out} {X : Nat → Out} {Z : List PanicEntry → Out} (F T slots D : List Nat) (paths : List (List Nat)) (PZ : List (Nat × PK)) (hm : P.follows .mixedOrders = true) (hB : seaB .any l.toArray F T = true) (hDT : D.all (fun j => T.contains j) = true) (hDB : dirtyB .any l.toArray F D paths = true)
    (hN : (L.all fun p => Nat.blt p.1 N) = true) (hZ : (PZ.all fun p => (match p.2 with | .p _ => true | _ => false) && slots.contains p.1) = true)
    (h : Reg P N l.toArray (.fix [] PZ) (pickL l.toArray F) ds L w (SeaEnd P N l.toArray ds w F T slots D PZ A) NoO (fun _ => NoO) NoZ) :
    CW P N (.region id l.toArray true) ds L w A B X Z := by
  intro a ha
  have hB1 := hB
  simp only [seaB, Bool.and_eq_true] at hB1
  obtain ⟨⟨⟨⟨⟨⟨⟨⟨⟨hsel, hall⟩, hnd⟩, hdi⟩, hsteps⟩, hFlt0⟩, hTlt⟩, hlow⟩, hFT⟩, hTF⟩ := hB1
  have hlkc : ∀ (L : Env) t, lookP (L.map fun p => (p.1, PK.c p.2)) t = (look L t).map PK.c := by
    intro L t
    induction L with
    | nil => rfl
    | cons p L ih => obtain ⟨k, v⟩ := p; rw [List.map_cons, lookP_cons, look_cons]; split <;> simp [*]
  have hmem : ∀ (L : Env) t v, look L t = some v → ∃ p ∈ L, p.1 = t := by
    intro L t v
    induction L with
    | nil => intro h; cases h
    | cons p L ih =>
      obtain ⟨k, u⟩ := p
      rw [look_cons]
      split
      · rename_i e; intro _; exact ⟨(k, u), List.mem_cons_self .., e⟩
      · intro h; obtain ⟨q, hq, e⟩ := ih h; exact ⟨q, List.mem_cons_of_mem _ hq, e⟩
  have hfit : Fits N (L.map fun p => (p.1, PK.c p.2)) L [] := by
    refine ⟨fun t v ht => by rw [hlkc, ht]; rfl, fun t v ht => ?_, fun t K hK => (by cases hK), fun t x hx => ?_⟩
    · obtain ⟨p, hp, rfl⟩ := hmem L t v ht
      have := List.all_eq_true.1 hN p hp
      simpa [Nat.blt_eq] using this
    · rw [hlkc] at hx
      cases hl : look L t with
      | none => rw [hl] at hx; cases hx
      | some v => rw [hl] at hx; cases hx; trivial
  have hno : ∀ t x, lookP (L.map fun p => (p.1, PK.c p.2)) t = some x → ∃ v, x = .c v := fun t x hx => by
    rw [hlkc] at hx
    cases hl : look L t with
    | none => rw [hl] at hx; cases hx
    | some v => rw [hl] at hx; cases hx; exact ⟨v, rfl⟩
  have hFlt : ∀ k ∈ F, k < l.toArray.size := fun k hk => by simpa using List.all_eq_true.1 hFlt0 k hk
  obtain ⟨rs, e1, e2, e2', e3, L0, hf', _, hcov, hnone, hwalk⟩ := fix_recs F _ hFlt (h _ hfit)
  have hkF : ∀ r ∈ rs, r.k ∈ F := fun r h => by rw [← e1]; exact List.mem_map_of_mem h
  have hdi' : ∀ r ∈ rs, ∀ r' ∈ rs, r.k ≠ r'.k → r.d ≠ r'.d := fun r h r' h' hne he => by
    have := List.all_eq_true.1 (List.all_eq_true.1 hdi r.k (hkF r h)) r'.k (hkF r' h')
    simp only [(e2 r h).1, (e2 r' h').1, Option.bind_some, (e2 r h).2.1, (e2 r' h').2.1, he, BEq.rfl, Bool.not_true, Bool.or_false, beq_iff_eq] at this
    exact hne this
  have hndF : (rs.map (·.k)).Nodup := by rw [e1]; exact (List.nodup_append.1 (nodupB_spec hnd)).1
  have huniq : ∀ r ∈ rs, ∀ r' ∈ rs, r.k = r'.k → r = r' := fun x hx y hy he => by
    obtain ⟨i, hi, rfl⟩ := List.mem_iff_getElem.1 hx
    obtain ⟨j, hj, rfl⟩ := List.mem_iff_getElem.1 hy
    have : i = j := by
      have h1 := List.getElem_inj (xs := rs.map (·.k)) (i := i) (j := j) (h₀ := by simpa using hi) (h₁ := by simpa using hj) hndF
      exact h1.1 (by simpa using he)
    subst this; rfl
  have hPZ : ∀ t x, lookP PZ t = some x → ∃ r ∈ rs, r.d = t ∧ r.x = x := fun t x hx => by
    have hin : ∀ (R : List (Nat × PK)), lookP R t = some x → (t, x) ∈ R := by
      intro R
      induction R with
      | nil => intro h; cases h
      | cons p R ih =>
        obtain ⟨k, y⟩ := p
        rw [lookP_cons]
        split
        · rename_i e; intro h; cases h; subst e; exact List.mem_cons_self ..
        · intro h; exact List.mem_cons_of_mem _ (ih h)
    have hz := List.all_eq_true.1 hZ _ (hin PZ hx)
    simp only [Bool.and_eq_true, List.contains_eq_mem, decide_eq_true_eq] at hz
    have hl0 : look L0 t = none := by simpa using List.all_eq_true.1 hnone t hz.2
    rcases lookP_envR rs _ t x (hf'.p t x hx hl0) with h5 | ⟨h5, _⟩
    · exact h5
    · obtain ⟨v, rfl⟩ := hno t x h5
      cases hz.1
  have hsl : ∀ r ∈ rs, (∃ v, r.x = .c v) ∨ r.d ∈ slots := fun r h => by
    have := List.all_eq_true.1 hcov r.k (hkF r h)
    simp only [(e2 r h).1, Option.bind_some, (e2 r h).2.1, Bool.or_eq_true, List.contains_eq_mem, decide_eq_true_eq] at this
    rcases this with h5 | h5
    · obtain ⟨v, hv⟩ := Option.isSome_iff_exists.1 h5
      rcases lookP_envR rs _ r.d _ (hf'.c r.d v hv) with ⟨r', h', hd, hx⟩ | ⟨_, h6⟩
      · have : r' = r := by
          by_cases hk : r'.k = r.k
          · exact huniq r' h' r h hk
          · exact absurd hd (hdi' r' h' r h hk)
        subst this; exact .inl ⟨v, hx⟩
      · exact absurd rfl (h6 r h)
    · exact .inr h5
  have hdone := sea_phase (N := N) (w0 := w) (ds := ds) (P := P) (A := A) (D := D) paths hDT hDB hB e1 e2 e2' hno e3 hPZ hsl l.toArray.size (List.range l.toArray.size) (Array.replicate l.toArray.size false) a { w with drawn := w.drawn + 1 } L0 T (by simp) List.nodup_range (fun k => ⟨fun hk => ⟨List.mem_range.1 hk, getD_repl _ _⟩, fun hk => List.mem_range.2 hk.1⟩)
    ⟨fun _ => Kp.drew _ _, by simp, ha.size, ha.defers, ⟨by rw [(over_size rs _).1]; exact ha.size, by rw [(over_size rs _).2]; exact ha.defers, fun t v ht => by
      rcases lookP_envR rs _ t _ (hf'.c t v ht) with ⟨r, h, hd, hx⟩ | ⟨h5, h6⟩
      · rw [← hd]
        exact over_at rs a (fun q hq => by rw [ha.size]; exact (e2 q hq).2.2.1) hdi' huniq r h v hx (getD_repl _ _)
      · rw [over_other rs a fun r h hd => absurd hd (h6 r h)]
        rw [hlkc] at h5
        cases hl : look L t with
        | none => rw [hl] at h5; cases h5
        | some u => rw [hl] at h5; cases h5; exact ha.val t _ hl⟩, hnone, fun r _ hd => (by rw [getD_repl] at hd; cases hd), fun t x hx _ _ => by
      rw [hlkc] at hx
      cases hl : look L t with
      | none => rw [hl] at hx; cases hx
      | some v => rw [hl] at hx; cases hx; exact ⟨v, ha.val t v hl, rfl⟩, fun j _ _ hd => (by rw [getD_repl] at hd; cases hd), ⟨(List.nodup_append.1 (nodupB_spec hnd)).2.1, fun j hj => ⟨hj, getD_repl _ _⟩, fun j hj hn => absurd hj hn⟩⟩
    (fun w'' he => hwalk w'' ((Kp.drew _ _).trans he))
  refine wp_mono (wp_region_any hm hdone) fun e a' w' hq => ?_
  cases e with
  | normal => exact hq
  | ret => obtain ⟨_, _, _, hz⟩ := hq; exact hz.elim
  | exit i => obtain ⟨_, _, _, hz⟩ := hq; exact hz.elim
  | panic c => obtain ⟨_, _, _, hz⟩ := hq; exact hz.elim
  | goto l => exact hq.elim
  | outgrown => exact hq.elim
end
end Go.Sx
