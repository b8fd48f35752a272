/-
  The code's part of the verifier's library: what is known of a frame (Env), regions, and the rules for each form of code. General: nothing of the program is named here.
-/
import Derived.Test.YtecmlmngcnionaaSxHeap
import Derived.Deep.Quiet
namespace Go.Sx
open Go Go.RowKit

abbrev Env := List (Nat × Value)
def look : Env → Nat → Option Value
  | [], _ => none
  | (k, v) :: r, t => bif Nat.beq k t then some v else look r t
def ev (L : Env) : Operand → Option Value
  | .tmp t => look L t
  | .const v => some v
  | .global g => some (.pointer (some ⟨g, 0, none⟩))
  | .func f => some (.func (.func f) #[] #[])

structure Knows (N : Nat) (ds : List Deferred) (L : Env) (a : Act) : Prop where
  size : a.tmps.size = N
  defers : a.defers = ds
  val : ∀ t v, look L t = some v → a.tmps[t]? = some v

theorem Knows.eval {N : Nat} {ds : List Deferred} {L : Env} {a : Act} (h : Knows N ds L a) {x : Operand} {v : Value} (hx : ev L x = some v) : a.eval x = v := by
  cases x with
  | tmp t =>
    have := h.val t v hx
    simp only [Act.eval, Array.getD_eq_getD_getElem?, this, Option.getD_some]
  | const u => exact Option.some.inj hx
  | global g => exact Option.some.inj hx
  | func f => exact Option.some.inj hx

theorem Knows.put {N : Nat} {ds : List Deferred} {L : Env} {a : Act} (h : Knows N ds L a) {d : Nat} (hd : Nat.blt d N = true) (v : Value) : Knows N ds ((d, v) :: L) (a.put (some d) v) := by
  have hd' : d < N := by simpa [Nat.blt_eq] using hd
  refine ⟨by simp [Act.put, h.size], h.defers, fun t u ht => ?_⟩
  simp only [look] at ht
  cases hb : Nat.beq d t with
  | true =>
    have : d = t := Nat.eq_of_beq_eq_true hb
    subst this
    simp only [hb, cond_true, Option.some.injEq] at ht
    subst ht
    simp [Act.put, h.size, hd']
  | false =>
    have hne : d ≠ t := fun e => by subst e; simp at hb
    simp only [hb, cond_false] at ht
    simp only [Act.put]
    rw [Array.getElem?_setIfInBounds_ne hne]
    exact h.val t u ht

/-- Whatever L says, L' says. -/
def Sub (L L' : Env) : Prop := ∀ t v, look L t = some v → look L' t = some v
theorem Sub.refl (L : Env) : Sub L L := fun _ _ h => h
theorem Sub.nil (L : Env) : Sub [] L := fun _ _ h => by simp [look] at h
theorem Sub.cons {t : Nat} {v : Value} {L L' : Env} (h : look L' t = some v) (hr : Sub L L') : Sub ((t, v) :: L) L' := fun u x hu => by
  simp only [look] at hu
  cases hb : Nat.beq t u with
  | true =>
    have : t = u := Nat.eq_of_beq_eq_true hb
    subst this
    simp only [hb, cond_true, Option.some.injEq] at hu
    subst hu; exact h
  | false =>
    simp only [hb, cond_false] at hu
    exact hr u x hu
theorem Knows.sub {N : Nat} {ds : List Deferred} {L L' : Env} {a : Act} (h : Knows N ds L' a) (hs : Sub L L') : Knows N ds L a :=
  ⟨h.size, h.defers, fun t v ht => h.val t v (hs t v ht)⟩

/-- What is asked at a way out of a piece of code: the marks of deferred calls, the frame, the world. -/
abbrev Out := List Deferred → Env → World → Prop
/-- A: at its end; B: at a return; X: at an exit; Z: at a panic. -/
def lift (N : Nat) (A B : Out) (X : Nat → Out) (Z : List PanicEntry → Out) : Exit → Act → World → Prop
  | .normal, a, w => ∃ ds L, Knows N ds L a ∧ A ds L w
  | .ret, a, w => ∃ ds L, Knows N ds L a ∧ B ds L w
  | .exit i, a, w => ∃ ds L, Knows N ds L a ∧ X i ds L w
  | .panic c, a, w => ∃ ds L, Knows N ds L a ∧ Z c ds L w
  | _, _, _ => False

/-- What is known of a value: it itself, or a property that stays, or a property of one that points to memory of its own. -/
inductive PK where
  | c (v : Value)
  | p (K : Value → World → Prop)
  | f (K : Value → World → Prop)
/-- The block that a value points to. -/
def blks : Value → List Nat
  | .slice (some a) _ _ => [a.block]
  | .pointer (some a) => [a.block]
  | _ => []
def PK.holds : PK → Value → World → Prop
  | .c v, u, _ => u = v
  | .p K, u, w => K u w
  | .f K, u, w => K u w ∧ ∀ b ∈ blks u, b < w.heap.size
def PK.stays : PK → Prop
  | .c _ => True
  | .p K | .f K => ∀ v w w', Ext w w' → K v w → K v w'
/-- Whatever the world. -/
def PK.pure : PK → Prop
  | .c _ => True
  | .p K => ∀ v w w', K v w → K v w'
  | .f _ => False
/-- Whether the memory is newer than w. -/
def PK.newer : PK → Value → World → Prop
  | .f _, v, w => ∀ b ∈ blks v, w.heap.size ≤ b
  | _, _, _ => True
def PK.isF : PK → Bool
  | .f _ => true
  | _ => false
theorem PK.holds.ext {x : PK} {v : Value} {w w' : World} (hs : x.stays) (he : Ext w w') (h : x.holds v w) : x.holds v w' := by
  cases x with
  | c u => exact h
  | p K => exact hs v w w' he h
  | f K => exact ⟨hs v w w' he h.1, fun b hb => Nat.lt_of_lt_of_le (h.2 b hb) he.size⟩
/-- How a region is walked: in its text's order; in its text's order while others may come between that only make new blocks (one value each); the same, some values being known by a property alone. -/
inductive Md where
  | seq
  | quiet
  | flow (PR : List (Nat × PK))
  | fix (PR PZ : List (Nat × PK))
def Md.drawn : Md → Bool | .seq => false | _ => true
def Cl (q : Md) (w w' : World) : Prop := match q with | .seq => w' = w | _ => Ext w w'
theorem Cl.refl (q : Md) (w : World) : Cl q w w := by cases q; exact rfl; all_goals exact Kp.refl _ _
theorem Cl.ext {q : Md} {w w' : World} (h : Cl q w w') : Ext w w' := by
  cases q with
  | seq => have h : w' = w := h; subst h; exact Kp.refl _ _
  | quiet => exact h
  | flow PR => exact h
  | fix _ _ => exact h

def lookP : List (Nat × PK) → Nat → Option PK
  | [], _ => none
  | (k, x) :: r, t => bif Nat.beq k t then some x else lookP r t
def sepV (u u' : Value) : Prop := ∀ b ∈ blks u, b ∉ blks u'
structure KnowsP (N : Nat) (ds : List Deferred) (PE : List (Nat × PK)) (a : Act) (w : World) (S : Nat → Prop) : Prop where
  size : a.tmps.size = N
  defers : a.defers = ds
  val : ∀ t, S t → ∀ x, lookP PE t = some x → ∃ u, a.tmps[t]? = some u ∧ x.holds u w
  sep : ∀ t t' x x', t ≠ t' → S t → S t' → lookP PE t = some x → lookP PE t' = some x' → x.isF = true → x'.isF = true → ∀ u u', a.tmps[t]? = some u → a.tmps[t']? = some u' → sepV u u'
/-- An operation, carried out: it leaves a value of which x is known, and new blocks at most. -/
def Step1 (P : Program) (ops : Array Oper) (o : Oper) (a : Act) (w : World) (x : PK) : Prop :=
  if Region.wanted o (yielded ops a.tmps) then o.wp P a w (fun a2 w2 => ∃ v, a2 = a.put o.dst v ∧ Ext w w2 ∧ x.holds v w2 ∧ x.newer v w) (fun _ _ _ => False) else x.holds undef w
def Ob (P : Program) (N : Nat) (ops : Array Oper) (ds : List Deferred) (w0 : World) (PE : List (Nat × PK)) (o : Oper) (x : PK) : Prop :=
  (∀ cs b, o.op ≠ .select cs b) → ∀ a w, Ext w0 w → KnowsP N ds PE a w (fun t => t ∈ o.looksAt ops) → Step1 P ops o a w x
def flowR (P : Program) (N : Nat) (ops : Array Oper) (ds : List Deferred) (w0 : World) (G : List (Nat × PK) → Prop) : List Oper → List (Nat × PK) → Prop
  | [], PE => G PE
  | o :: r, PE => ∃ d x, o.dst = some d ∧ Nat.blt d N = true ∧ x.stays ∧ Ob P N ops ds w0 PE o x ∧ flowR P N ops ds w0 G r ((d, x) :: PE)
def fixR (P : Program) (N : Nat) (ops : Array Oper) (ds : List Deferred) (w0 : World) (G : List (Nat × PK) → Prop) : List Oper → List (Nat × PK) → Prop
  | [], PE => G PE
  | o :: r, PE => ∃ d x, o.dst = some d ∧ Nat.blt d N = true ∧ x.pure ∧ Ob P N ops ds w0 PE o x ∧ fixR P N ops ds w0 G r ((d, x) :: PE)
structure Fits (N : Nat) (PE : List (Nat × PK)) (L : Env) (PR : List (Nat × PK)) : Prop where
  c : ∀ t v, look L t = some v → lookP PE t = some (.c v)
  n : ∀ t v, look L t = some v → t < N
  p : ∀ t x, lookP PR t = some x → look L t = none → lookP PE t = some x
  s : ∀ t x, lookP PE t = some x → x.stays

def Reg (P : Program) (N : Nat) (ops : Array Oper) (q : Md) (l : List Oper) (ds : List Deferred) (L : Env) (w : World) (A B : Out) (X : Nat → Out) (Z : List PanicEntry → Out) : Prop :=
  match q with
  | .seq => ∀ a, Knows N ds L a → wpList P ops (lift N A B X Z) l a w
  | .quiet => ∀ a, Knows N ds L a → wpQuiet P ops (Ext w) (fun a' => ∀ w', Ext w w' → lift N A B X Z .normal a' w') l a
  | .flow PR => ∀ PE, Fits N PE L PR → flowR P N ops ds w (fun PE' => ∀ a w', Ext w w' → KnowsP N ds PE' a w' (fun _ => True) → lift N A B X Z .normal a w') l PE
  | .fix PR PZ => ∀ PE, Fits N PE L PR → fixR P N ops ds w (fun PE' => ∃ L', Fits N PE' L' PZ ∧ A ds L' w) l PE

def CW (P : Program) (N : Nat) (c : Code) (ds : List Deferred) (L : Env) (w : World) (A B : Out) (X : Nat → Out) (Z : List PanicEntry → Out) : Prop := ∀ a, Knows N ds L a → c.wp P (lift N A B X Z) a w

section
variable {P : Program} {N : Nat} {ops : Array Oper} {q : Md} {rest : List Oper} {ds : List Deferred} {L : Env} {w : World} {A B : Out} {X : Nat → Out} {Z : List PanicEntry → Out}

theorem Reg.nil (h : A ds L w) : Reg P N ops .seq [] ds L w A B X Z := fun a ha => wpList_nil ⟨ds, L, ha, h⟩
theorem Reg.nilq (h : ∀ w', Ext w w' → A ds L w') : Reg P N ops .quiet [] ds L w A B X Z := fun a ha => wpQuiet_nil fun w' hw' => ⟨ds, L, ha, h w' hw'⟩

/-- A frame that knows all of L, and is a's at what the operation looks at. -/
theorem fake {o : Oper} {a : Act} {L : Env} (hs : a.tmps.size = N) (hd : a.defers = ds) (hn : ∀ t v, look L t = some v → t < N) (hv : ∀ t v, look L t = some v → t ∈ o.looksAt ops → a.tmps[t]? = some v) :
    ∃ a', Knows N ds L a' ∧ ∀ t ∈ o.looksAt ops, a'.tmps[t]? = a.tmps[t]? := by
  refine ⟨{ a with tmps := Array.ofFn fun i : Fin N => if i.val ∈ o.looksAt ops then a.tmps.getD i.val undef else (look L i.val).getD undef }, ⟨by simp, hd, fun t v ht => ?_⟩, fun t ht => ?_⟩
  · have hlt := hn t v ht
    simp only [Array.getElem?_ofFn, hlt, dif_pos]
    by_cases hm : t ∈ o.looksAt ops
    · have := hv t v ht hm
      simp [hm, Array.getD_eq_getD_getElem?, this]
    · simp [hm, ht]
  · by_cases hlt : t < N
    · have h1 : t < a.tmps.size := by rw [hs]; exact hlt
      simp [Array.getElem?_ofFn, hlt, ht, h1]
    · have h1 : ¬ t < a.tmps.size := by rw [hs]; exact hlt
      simp [Array.getElem?_ofFn, hlt, h1]
theorem eval_of_looks {o : Oper} {a a' : Act} (h : ∀ t ∈ o.looksAt ops, a'.tmps[t]? = a.tmps[t]?) : ∀ x ∈ o.op.operands, a'.eval x = a.eval x := fun x hx => by
  cases x with
  | tmp t =>
    have := h t (List.mem_append_left _ (List.mem_filterMap.2 ⟨.tmp t, by simpa using hx, rfl⟩))
    simp only [Act.eval, Array.getD_eq_getD_getElem?, this]
  | const u => rfl
  | global g => rfl
  | func f => rfl
theorem wanted_of_looks {o : Oper} {a a' : Act} (h : ∀ t ∈ o.looksAt ops, a'.tmps[t]? = a.tmps[t]?) : Region.wanted o (yielded ops a'.tmps) = Region.wanted o (yielded ops a.tmps) := by
  unfold Region.wanted
  cases hg : o.guard with
  | none => rfl
  | some gw =>
    obtain ⟨g, want⟩ := gw
    have hy : yielded ops a'.tmps g = yielded ops a.tmps g := by
      unfold yielded
      cases ht : (ops[g]?).bind (·.dst) with
      | none => rfl
      | some t =>
        have := h t (by simp [Oper.looksAt, hg, ht])
        simp only [Option.bind_some, this]
    simp only [hy]
theorem lookP_cons {d t : Nat} {x : PK} {PE : List (Nat × PK)} : lookP ((d, x) :: PE) t = if d = t then some x else lookP PE t := by
  by_cases h : d = t
  · subst h; simp [lookP]
  · have : Nat.beq d t = false := by
      cases hb : Nat.beq d t with
      | false => rfl
      | true => exact absurd (Nat.eq_of_beq_eq_true hb) h
    simp [lookP, this, h]
theorem look_cons {d t : Nat} {x : Value} {PE : Env} : look ((d, x) :: PE) t = if d = t then some x else look PE t := by
  by_cases h : d = t
  · subst h; simp [look]
  · have : Nat.beq d t = false := by
      cases hb : Nat.beq d t with
      | false => rfl
      | true => exact absurd (Nat.eq_of_beq_eq_true hb) h
    simp [look, this, h]
theorem Fits.putC {PE PR : List (Nat × PK)} (h : Fits N PE L PR) {d : Nat} (hN : d < N) (v : Value) : Fits N ((d, .c v) :: PE) ((d, v) :: L) PR := by
  refine ⟨fun t u ht => ?_, fun t u ht => ?_, fun t K hK hl => ?_, fun t x hx => ?_⟩
  · rw [look_cons] at ht; rw [lookP_cons]
    split at ht
    · rename_i hd; rw [if_pos hd]; cases ht; rfl
    · rename_i hd; rw [if_neg hd]; exact h.c t u ht
  · rw [look_cons] at ht
    split at ht
    · rename_i hd; omega
    · exact h.n t u ht
  · rw [look_cons] at hl; rw [lookP_cons]
    split at hl
    · cases hl
    · rename_i hd; rw [if_neg hd]; exact h.p t K hK hl
  · rw [lookP_cons] at hx
    split at hx
    · cases hx; trivial
    · exact h.s t x hx
theorem Fits.putP {PE PR : List (Nat × PK)} (h : Fits N PE L PR) {d : Nat} {K : PK} (hd : look L d = none) (hK : K.stays) : Fits N ((d, K) :: PE) L ((d, K) :: PR) := by
  refine ⟨fun t u ht => ?_, h.n, fun t K' hK' hl => ?_, fun t x hx => ?_⟩
  · rw [lookP_cons]
    split
    · rename_i e; subst e; rw [hd] at ht; cases ht
    · exact h.c t u ht
  · rw [lookP_cons] at hK'; rw [lookP_cons]
    split at hK'
    · rename_i e; rw [if_pos e]; exact hK'
    · rename_i e; rw [if_neg e]; exact h.p t K' hK' hl
  · rw [lookP_cons] at hx
    split at hx
    · cases hx; exact hK
    · exact h.s t x hx
theorem Fits.same {PE PR : List (Nat × PK)} {L' : Env} (h : Fits N PE L PR) (hl : ∀ t, look L' t = look L t) : Fits N PE L' PR :=
  ⟨fun t v ht => h.c t v (by rw [← hl]; exact ht), fun t v ht => h.n t v (by rw [← hl]; exact ht), fun t K hK ht => h.p t K hK (by rw [← hl]; exact ht), h.s⟩
theorem step1_val {o : Oper} {a : Act} {w : World} {v : Value} {x : PK} (hr : Region.wanted o (yielded ops a.tmps) = true → (execOp a.eval o).run P w = .ok (.value v) w) (hw : Region.wanted o (yielded ops a.tmps) = true) (hx : x.holds v w) (hf : x.newer v w) : Step1 P ops o a w x := by
  simp only [Step1, hw, if_true, Oper.wp, hr hw, Oper.upon]
  exact ⟨v, rfl, Kp.refl _ _, hx, hf⟩

/-- An operation that only reckons a value. -/
theorem Reg.val {o : Oper} {d : Nat} (v : Value) (hg : o.guard = none) (hd : o.dst = some d) (hN : Nat.blt d N = true)
    (hr : ∀ a, Knows N ds L a → ∀ w', Cl q w w' → (execOp a.eval o).run P w' = .ok (.value v) w')
    (h : Reg P N ops q rest ds ((d, v) :: L) w A B X Z) : Reg P N ops q (o :: rest) ds L w A B X Z := by
  cases q with
  | seq =>
    intro a ha
    refine wpList_plain hg fun K hK => ?_
    have := hr a ha w rfl
    simp only [Oper.wp, this, Oper.upon_value, hd]
    exact hK _ _ (h _ (ha.put hN v))
  | quiet =>
    intro a ha
    refine wpQuiet_step fun K hK => ?_
    simp only [Region.wanted, hg, if_true]
    refine ⟨v, fun w' hw' => ?_, ?_⟩
    · have := hr a ha w' hw'
      simp only [Oper.quietAt, this, Oper.quietUpon, and_self]
    · rw [hd]; exact hK _ (h _ (ha.put hN v))
  | flow PR =>
    intro PE hf
    have hlt : d < N := by simpa [Nat.blt_eq] using hN
    refine ⟨d, .c v, hd, hN, trivial, fun hs a w1 he hk => ?_, h _ (hf.putC hlt v)⟩
    obtain ⟨a', ha', hl⟩ := fake (ops := ops) (o := o) (L := L) hk.size hk.defers hf.n fun t u ht hm => by
      obtain ⟨y, hy, hh⟩ := hk.val t hm _ (hf.c t u ht)
      have hh : y = u := hh
      rw [hy, hh]
    refine step1_val (v := v) (fun _ => ?_) (by simp [Region.wanted, hg]) rfl trivial
    rw [← execOp_congr o hs (eval_of_looks hl)]
    exact hr a' ha' w1 he
  | fix PR PZ =>
    intro PE hf
    have hlt : d < N := by simpa [Nat.blt_eq] using hN
    refine ⟨d, .c v, hd, hN, trivial, fun hs a w1 he hk => ?_, h _ (hf.putC hlt v)⟩
    obtain ⟨a', ha', hl⟩ := fake (ops := ops) (o := o) (L := L) hk.size hk.defers hf.n fun t u ht hm => by
      obtain ⟨y, hy, hh⟩ := hk.val t hm _ (hf.c t u ht)
      have hh : y = u := hh
      rw [hy, hh]
    refine step1_val (v := v) (fun _ => ?_) (by simp [Region.wanted, hg]) rfl trivial
    rw [← execOp_congr o hs (eval_of_looks hl)]
    exact hr a' ha' w1 he

/-- An operation that makes or writes memory, and hands a value on. -/
theorem Reg.eff {o : Oper} {d : Nat} (v : Value) (w' : World) (hg : o.guard = none) (hd : o.dst = some d) (hN : Nat.blt d N = true)
    (hr : ∀ a, Knows N ds L a → (execOp a.eval o).run P w = .ok (.value v) w')
    (h : Reg P N ops .seq rest ds ((d, v) :: L) w' A B X Z) : Reg P N ops .seq (o :: rest) ds L w A B X Z := by
  intro a ha
  refine wpList_plain hg fun K hK => ?_
  simp only [Oper.wp, hr a ha, Oper.upon_value, hd]
  exact hK _ _ (h _ (ha.put hN v))

/-- A store. -/
theorem Reg.sto {o : Oper} (w' : World) (hg : o.guard = none) (hd : o.dst = none)
    (hr : ∀ a, Knows N ds L a → (execOp a.eval o).run P w = .ok .skip w')
    (h : Reg P N ops .seq rest ds L w' A B X Z) : Reg P N ops .seq (o :: rest) ds L w A B X Z := by
  intro a ha
  refine wpList_plain hg fun K hK => ?_
  simp only [Oper.wp, hr a ha, Oper.upon_skip, hd]
  exact hK _ _ (h _ ha)

/-- A call. -/
theorem Reg.call {o : Oper} {d f : Nat} {args : Array Value} (hg : o.guard = none) (hd : o.dst = some d) (hN : Nat.blt d N = true)
    (hr : ∀ a, Knows N ds L a → (execOp a.eval o).run P w = .ok (.enter f args) w)
    (h : Calls P f args w fun e w' => ∃ v, e = .returned v ∧ Reg P N ops .seq rest ds ((d, v) :: L) w' A B X Z) : Reg P N ops .seq (o :: rest) ds L w A B X Z := by
  intro a ha
  refine wpList_plain hg fun K hK => ?_
  simp only [Oper.wp, hr a ha, Oper.upon_enter, hd]
  refine h.mono ?_
  rintro e w' ⟨v, rfl, h⟩
  exact hK _ _ (h _ (ha.put hN v))
theorem Reg.call0 {o : Oper} {f : Nat} {args : Array Value} (hg : o.guard = none) (hd : o.dst = none)
    (hr : ∀ a, Knows N ds L a → (execOp a.eval o).run P w = .ok (.enter f args) w)
    (h : Calls P f args w fun e w' => ∃ v, e = .returned v ∧ Reg P N ops .seq rest ds L w' A B X Z) : Reg P N ops .seq (o :: rest) ds L w A B X Z := by
  intro a ha
  refine wpList_plain hg fun K hK => ?_
  simp only [Oper.wp, hr a ha, Oper.upon_enter, hd]
  refine h.mono ?_
  rintro e w' ⟨v, rfl, h⟩
  exact hK _ _ (h _ ha)
theorem Reg.callq {o : Oper} {d f : Nat} {args : Array Value} (v : Value) (hq : q.drawn = true) (hg : o.guard = none) (hd : o.dst = some d) (hN : Nat.blt d N = true)
    (hr : ∀ a, Knows N ds L a → ∀ w', Ext w w' → (execOp a.eval o).run P w' = .ok (.enter f args) w')
    (hc : ∀ w', Ext w w' → Calls P f args w' fun e w'' => e = .returned v ∧ Ext w' w'')
    (h : Reg P N ops q rest ds ((d, v) :: L) w A B X Z) : Reg P N ops q (o :: rest) ds L w A B X Z := by
  cases q with
  | seq => cases hq
  | quiet =>
    intro a ha
    refine wpQuiet_step fun K hK => ?_
    simp only [Region.wanted, hg, if_true]
    refine ⟨v, fun w' hw' => ?_, ?_⟩
    · have := hr a ha w' hw'
      simp only [Oper.quietAt, this, Oper.quietUpon, true_and]
      exact (hc w' hw').mono fun e w'' ⟨he, hx⟩ => ⟨he, hw'.trans hx⟩
    · rw [hd]; exact hK _ (h _ (ha.put hN v))
  | flow PR =>
    intro PE hf
    have hlt : d < N := by simpa [Nat.blt_eq] using hN
    refine ⟨d, .c v, hd, hN, trivial, fun hs a w1 he hk => ?_, h _ (hf.putC hlt v)⟩
    obtain ⟨a', ha', hl⟩ := fake (ops := ops) (o := o) (L := L) hk.size hk.defers hf.n fun t u ht hm => by
      obtain ⟨y, hy, hh⟩ := hk.val t hm _ (hf.c t u ht)
      have hh : y = u := hh
      rw [hy, hh]
    have hr1 := hr a' ha' w1 he
    rw [execOp_congr o hs (eval_of_looks hl)] at hr1
    simp only [Step1, Region.wanted, hg, if_true, Oper.wp, hr1, Oper.upon]
    refine (hc w1 he).mono fun e w2 ⟨h1, h2⟩ => ?_
    subst h1
    exact ⟨v, rfl, h2, rfl, trivial⟩
  | fix PR PZ =>
    intro PE hf
    have hlt : d < N := by simpa [Nat.blt_eq] using hN
    refine ⟨d, .c v, hd, hN, trivial, fun hs a w1 he hk => ?_, h _ (hf.putC hlt v)⟩
    obtain ⟨a', ha', hl⟩ := fake (ops := ops) (o := o) (L := L) hk.size hk.defers hf.n fun t u ht hm => by
      obtain ⟨y, hy, hh⟩ := hk.val t hm _ (hf.c t u ht)
      have hh : y = u := hh
      rw [hy, hh]
    have hr1 := hr a' ha' w1 he
    rw [execOp_congr o hs (eval_of_looks hl)] at hr1
    simp only [Step1, Region.wanted, hg, if_true, Oper.wp, hr1, Oper.upon]
    refine (hc w1 he).mono fun e w2 ⟨h1, h2⟩ => ?_
    subst h1
    exact ⟨v, rfl, h2, rfl, trivial⟩

/-- Guards. -/
theorem yielded_of {a : Act} (ha : Knows N ds L a) {j t : Nat} {b : Bool} (hj : (ops[j]?).bind (·.dst) = some t) (ht : look L t = some (.bool b)) : yielded ops a.tmps j = some b := by
  simp only [yielded, hj, Option.bind_some, ha.val t _ ht]
theorem yieldedP_of {a : Act} {w1 : World} {PE : List (Nat × PK)} {S : Nat → Prop} (hk : KnowsP N ds PE a w1 S) {j t : Nat} {b : Bool} (hj : (ops[j]?).bind (·.dst) = some t) (hS : S t) (ht : lookP PE t = some (.c (.bool b))) : yielded ops a.tmps j = some b := by
  obtain ⟨u, hu, hh⟩ := hk.val t hS _ ht
  have hh : u = .bool b := hh
  subst hh
  simp only [yielded, hj, Option.bind_some, hu]
theorem Reg.take {d : Option Tmp} {op : Op} {ty : TypeId} {pos : String} {after : Array Edge} {j t : Nat} {b : Bool} (hj : (ops[j]?).bind (·.dst) = some t) (ht : look L t = some (.bool b))
    (h : Reg P N ops q (⟨d, op, ty, pos, after, none⟩ :: rest) ds L w A B X Z) : Reg P N ops q (⟨d, op, ty, pos, after, some (j, b)⟩ :: rest) ds L w A B X Z := by
  cases q with
  | seq =>
    intro a ha
    have := h a ha
    simp only [wpList, Region.wanted, yielded_of ha hj ht, BEq.rfl, if_true] at this ⊢
    exact this
  | quiet =>
    intro a ha
    have := h a ha
    simp only [wpQuiet, Region.wanted, yielded_of ha hj ht, BEq.rfl, if_true] at this ⊢
    exact this
  | flow PR =>
    intro PE hf
    obtain ⟨d', x, h1, h2, h3, h4, h5⟩ := h PE hf
    refine ⟨d', x, h1, h2, h3, fun hs a w1 he hk => ?_, h5⟩
    have hy := yieldedP_of hk hj (by simp [Oper.looksAt, hj]) (hf.c t _ ht)
    have := h4 hs a w1 he ⟨hk.size, hk.defers, fun t ht x hx => hk.val t (by simp only [Oper.looksAt, List.append_nil] at ht; exact List.mem_append_left _ ht) x hx,
      fun t t' x x' hne ht ht' => hk.sep t t' x x' hne (by simp only [Oper.looksAt, List.append_nil] at ht; exact List.mem_append_left _ ht) (by simp only [Oper.looksAt, List.append_nil] at ht'; exact List.mem_append_left _ ht')⟩
    simp only [Step1, Region.wanted, hy, BEq.rfl, if_true] at this ⊢
    exact this
  | fix PR PZ =>
    intro PE hf
    obtain ⟨d', x, h1, h2, h3, h4, h5⟩ := h PE hf
    refine ⟨d', x, h1, h2, h3, fun hs a w1 he hk => ?_, h5⟩
    have hy := yieldedP_of hk hj (by simp [Oper.looksAt, hj]) (hf.c t _ ht)
    have := h4 hs a w1 he ⟨hk.size, hk.defers, fun t ht x hx => hk.val t (by simp only [Oper.looksAt, List.append_nil] at ht; exact List.mem_append_left _ ht) x hx,
      fun t t' x x' hne ht ht' => hk.sep t t' x x' hne (by simp only [Oper.looksAt, List.append_nil] at ht; exact List.mem_append_left _ ht) (by simp only [Oper.looksAt, List.append_nil] at ht'; exact List.mem_append_left _ ht')⟩
    simp only [Step1, Region.wanted, hy, BEq.rfl, if_true] at this ⊢
    exact this

theorem Reg.pass {d : Nat} {op : Op} {ty : TypeId} {pos : String} {after : Array Edge} {j t : Nat} {b b' : Bool} (hN : Nat.blt d N = true) (hj : (ops[j]?).bind (·.dst) = some t) (ht : look L t = some (.bool b')) (hb : (b' == b) = false)
    (h : Reg P N ops q rest ds ((d, undef) :: L) w A B X Z) : Reg P N ops q (⟨some d, op, ty, pos, after, some (j, b)⟩ :: rest) ds L w A B X Z := by
  have hw : ∀ a, Knows N ds L a → Region.wanted (⟨some d, op, ty, pos, after, some (j, b)⟩ : Oper) (yielded ops a.tmps) = false := fun a ha => by
    simp only [Region.wanted, yielded_of ha hj ht]
    simpa using hb
  cases q with
  | seq =>
    intro a ha
    simp only [wpList, hw a ha, Bool.false_eq_true, if_false]
    exact h _ (ha.put hN _)
  | quiet =>
    intro a ha
    simp only [wpQuiet, hw a ha, Bool.false_eq_true, if_false]
    exact h _ (ha.put hN _)
  | flow PR =>
    intro PE hf
    have hlt : d < N := by simpa [Nat.blt_eq] using hN
    refine ⟨d, .c undef, rfl, hN, trivial, fun hs a w1 he hk => ?_, h _ (hf.putC hlt _)⟩
    have hy := yieldedP_of hk hj (by simp [Oper.looksAt, hj]) (hf.c t _ ht)
    have hne : ((some b' : Option Bool) == some b) = false := by simpa using hb
    simp only [Step1, Region.wanted, hy, hne, Bool.false_eq_true, if_false]
    rfl
  | fix PR PZ =>
    intro PE hf
    have hlt : d < N := by simpa [Nat.blt_eq] using hN
    refine ⟨d, .c undef, rfl, hN, trivial, fun hs a w1 he hk => ?_, h _ (hf.putC hlt _)⟩
    have hy := yieldedP_of hk hj (by simp [Oper.looksAt, hj]) (hf.c t _ ht)
    have hne : ((some b' : Option Bool) == some b) = false := by simpa using hb
    simp only [Step1, Region.wanted, hy, hne, Bool.false_eq_true, if_false]
    rfl

/-- A guard that was itself passed by. -/
theorem Reg.passU {d : Nat} {op : Op} {ty : TypeId} {pos : String} {after : Array Edge} {j t : Nat} {b : Bool} (hN : Nat.blt d N = true) (hj : (ops[j]?).bind (·.dst) = some t) (ht : look L t = some undef)
    (h : Reg P N ops q rest ds ((d, undef) :: L) w A B X Z) : Reg P N ops q (⟨some d, op, ty, pos, after, some (j, b)⟩ :: rest) ds L w A B X Z := by
  have hy : ∀ a, Knows N ds L a → yielded ops a.tmps j = none := fun a ha => by simp only [yielded, hj, Option.bind_some, ha.val t _ ht]; rfl
  have hw : ∀ a, Knows N ds L a → Region.wanted (⟨some d, op, ty, pos, after, some (j, b)⟩ : Oper) (yielded ops a.tmps) = false := fun a ha => by
    simp only [Region.wanted, hy a ha]; rfl
  cases q with
  | seq =>
    intro a ha
    simp only [wpList, hw a ha, Bool.false_eq_true, if_false]
    exact h _ (ha.put hN _)
  | quiet =>
    intro a ha
    simp only [wpQuiet, hw a ha, Bool.false_eq_true, if_false]
    exact h _ (ha.put hN _)
  | flow PR =>
    intro PE hf
    have hlt : d < N := by simpa [Nat.blt_eq] using hN
    refine ⟨d, .c undef, rfl, hN, trivial, fun hs a w1 he hk => ?_, h _ (hf.putC hlt _)⟩
    have hyy : yielded ops a.tmps j = none := by
      obtain ⟨u, hu, hh⟩ := hk.val t (by simp [Oper.looksAt, hj]) _ (hf.c t _ ht)
      have hh : u = undef := hh
      subst hh
      simp only [yielded, hj, Option.bind_some, hu]; rfl
    have hne : ((none : Option Bool) == some b) = false := rfl
    simp only [Step1, Region.wanted, hyy, hne, Bool.false_eq_true, if_false]
    rfl
  | fix PR PZ =>
    intro PE hf
    have hlt : d < N := by simpa [Nat.blt_eq] using hN
    refine ⟨d, .c undef, rfl, hN, trivial, fun hs a w1 he hk => ?_, h _ (hf.putC hlt _)⟩
    have hyy : yielded ops a.tmps j = none := by
      obtain ⟨u, hu, hh⟩ := hk.val t (by simp [Oper.looksAt, hj]) _ (hf.c t _ ht)
      have hh : u = undef := hh
      subst hh
      simp only [yielded, hj, Option.bind_some, hu]; rfl
    have hne : ((none : Option Bool) == some b) = false := rfl
    simp only [Step1, Region.wanted, hyy, hne, Bool.false_eq_true, if_false]
    rfl

/-- A test whose answer is not known yet. -/
theorem Reg.gsplit {l : List Oper} {t : Nat} {x : Bool} (ht : look L t = some (.bool x)) (hT : x = true → Reg P N ops q l ds ((t, .bool true) :: L) w A B X Z)
    (hF : x = false → Reg P N ops q l ds ((t, .bool false) :: L) w A B X Z) : Reg P N ops q l ds L w A B X Z := by
  have key : ∀ b, x = b → Sub ((t, .bool b) :: L) L := fun b hb => Sub.cons (by rw [ht, hb]) (Sub.refl L)
  have keyF : ∀ b, x = b → ∀ u, look ((t, .bool b) :: L) u = look L u := fun b hb u => by
    rw [look_cons]
    split
    · rename_i e; subst e; rw [ht, hb]
    · rfl
  cases x with
  | true => cases q <;> first | exact fun a ha => hT rfl a (ha.sub (key true rfl)) | exact fun PE hf => hT rfl PE (hf.same (keyF true rfl))
  | false => cases q <;> first | exact fun a ha => hF rfl a (ha.sub (key false rfl)) | exact fun PE hf => hF rfl PE (hf.same (keyF false rfl))

/-! Code. -/
theorem cw_regF {id : Nat} {l : List Oper} (h : Reg P N l.toArray .seq l ds L w A B X Z) : CW P N (.region id l.toArray false) ds L w A B X Z := fun a ha => wp_region_lit (h a ha)
theorem cw_regT {id : Nat} {l : List Oper} (hm : P.follows .mixedOrders = true) (hB : Region.lexB .any l.toArray = true) (h : Reg P N l.toArray .quiet l ds L w A B X Z) : CW P N (.region id l.toArray true) ds L w A B X Z :=
  fun a ha => wp_region_quiet (C := Ext w) hm hB (Kp.drew _ _) (by simpa using h a ha)

theorem cw_seq {x y : Code} (h : CW P N x ds L w (fun ds' L' w' => CW P N y ds' L' w' A B X Z) B X Z) : CW P N (.seq x y) ds L w A B X Z := fun a ha =>
  wp_seq (wp_mono (h a ha) fun e a' w' hq => by
    cases e with
    | normal => obtain ⟨ds', L', ha', hk⟩ := hq; exact hk a' ha'
    | _ => exact hq)
theorem cw_skip (h : A ds L w) : CW P N .skip ds L w A B X Z := fun a ha => wp_skip ⟨ds, L, ha, h⟩
theorem cw_ret (h : B ds L w) : CW P N .ret ds L w A B X Z := fun a ha => wp_ret ⟨ds, L, ha, h⟩
theorem cw_exit {id : Nat} (h : X id ds L w) : CW P N (.exit id) ds L w A B X Z := fun a ha => wp_exit ⟨ds, L, ha, h⟩
theorem cw_cond {c : Operand} {x y : Code} {b : Bool} (hc : ev L c = some (.bool b)) (ht : b = true → CW P N x ds L w A B X Z) (hf : b = false → CW P N y ds L w A B X Z) : CW P N (.cond c x y) ds L w A B X Z :=
  fun a ha => wp_cond_split (ha.eval hc) (fun h => ht h a ha) (fun h => hf h a ha)
theorem cw_condT {c : Operand} {x y : Code} (hc : ev L c = some (.bool true)) (h : CW P N x ds L w A B X Z) : CW P N (.cond c x y) ds L w A B X Z := cw_cond hc (fun _ => h) (fun e => by cases e)
theorem cw_condF {c : Operand} {x y : Code} (hc : ev L c = some (.bool false)) (h : CW P N y ds L w A B X Z) : CW P N (.cond c x y) ds L w A B X Z := cw_cond hc (fun e => by cases e) (fun _ => h)
theorem nd_true {p : Prop} [Decidable p] (h : (!decide p) = true) : ¬ p := by simpa using h
theorem nd_false {p : Prop} [Decidable p] (h : (!decide p) = false) : p := by simpa using h
/-- Ways out of a block: the block's own, and all others. -/
def exB (id : Nat) (A : Out) (X : Nat → Out) (i : Nat) : Out := bif Nat.beq i id then A else X i
theorem exB_same {id : Nat} (h : A ds L w) : exB id A X id ds L w := by simpa [exB] using h
theorem exB_other {id i : Nat} (hi : Nat.beq i id = false) (h : X i ds L w) : exB id A X i ds L w := by simpa [exB, hi] using h
theorem cw_block {id : Nat} {c : Code} (h : CW P N c ds L w A B (exB id A X) Z) : CW P N (.block id c) ds L w A B X Z := fun a ha =>
  wp_block (wp_mono (h a ha) fun e a' w' hq => by
    cases e with
    | exit i =>
      obtain ⟨ds', L', ha', hx⟩ := hq
      simp only [Exit.inBlock]
      by_cases hi : i = id
      · subst hi
        rw [if_pos rfl]
        exact ⟨ds', L', ha', by simpa [exB] using hx⟩
      · rw [if_neg hi]
        refine ⟨ds', L', ha', ?_⟩
        have hb : Nat.beq i id = false := by
          cases hb : Nat.beq i id with
          | false => rfl
          | true => exact absurd (Nat.eq_of_beq_eq_true hb) hi
        simpa [exB, hb] using hx
    | _ => exact hq)
/-- A loop: at each round's head the frame is known as E i, and I i holds; each round that goes on finds an i with a smaller measure. -/
theorem cw_loop {ι : Type} {c : Code} (E : ι → Env) (I : ι → World → Prop) (μ : ι → Nat) (i0 : ι) (h0 : I i0 w) (hs : Sub (E i0) L)
    (round : ∀ i w, I i w → CW P N c ds (E i) w (fun ds' L' w' => ds' = ds ∧ ∃ i', I i' w' ∧ Sub (E i') L' ∧ μ i' < μ i) B X Z) : CW P N (.loop c) ds L w A B X Z := by
  intro a ha b k cs
  have key : ∀ n a w i, μ i = n → I i w → Knows N ds (E i) a →
      ∃ e a' w', (lift N A B X Z) e a' w' ∧ Arrives P (lone (b.at a (.code c :: .inLoop c :: k)) cs w) b k cs e a' w' := by
    intro n
    induction n using Nat.strongRecOn with
    | _ n ih =>
      intro a w i hn hI hk
      obtain ⟨e, a₁, w₁, hq, harr⟩ := round i w hI a hk b (.inLoop c :: k) cs
      cases e with
      | normal =>
        obtain ⟨ds₁, L₁, hk₁, rfl, i', hI', hs', hlt⟩ := hq
        obtain ⟨e₂, a₂, w₂, hq₂, harr₂⟩ := ih (μ i') (hn ▸ hlt) a₁ w₁ i' rfl hI' (hk₁.sub hs')
        exact ⟨e₂, a₂, w₂, hq₂, .of_steps (Steps.trans harr (.one step_inLoop)) harr₂⟩
      | exit id => exact ⟨.exit id, a₁, w₁, hq, .pass (x := .inLoop c) rfl (fun _ _ => .inl (by simp)) harr⟩
      | goto l => exact hq.elim
      | ret => exact ⟨.ret, a₁, w₁, hq, .pass (x := .inLoop c) rfl (fun _ _ => .inl (by simp)) harr⟩
      | panic ch => exact ⟨.panic ch, a₁, w₁, hq, .pass (x := .inLoop c) rfl (fun _ _ => .inl (by simp)) harr⟩
      | outgrown => exact hq.elim
  obtain ⟨e, a', w', hq, harr⟩ := key _ a w i0 rfl h0 (ha.sub hs)
  exact ⟨e, a', w', hq, .of_steps (.one step_loop) harr⟩
/-- The same, where all behind the first m entries of what is known stays. -/
theorem cw_loopD (m : Nat) {ι : Type} {c : Code} (E : ι → Env) (I : ι → World → Prop) (μ : ι → Nat) (i0 : ι) (h0 : I i0 w) (hs : Sub (E i0 ++ L.drop m) L)
    (round : ∀ i w, I i w → CW P N c ds (E i ++ L.drop m) w (fun ds' L' w' => ds' = ds ∧ ∃ i', I i' w' ∧ Sub (E i' ++ L.drop m) L' ∧ μ i' < μ i) B X Z) : CW P N (.loop c) ds L w A B X Z :=
  cw_loop (fun i => E i ++ L.drop m) I μ i0 h0 hs round
/-- What was known may be forgotten. -/
theorem cw_sub {c : Code} {L' : Env} (hs : Sub L L') (h : CW P N c ds L w A B X Z) : CW P N c ds L' w A B X Z := fun a ha => h a (ha.sub hs)
theorem cw_mono {c : Code} {A' B' : Out} {X' : Nat → Out} {Z' : List PanicEntry → Out} (h : CW P N c ds L w A' B' X' Z') (hq : ∀ e a w, lift N A' B' X' Z' e a w → lift N A B X Z e a w) : CW P N c ds L w A B X Z := fun a ha => wp_mono (h a ha) hq
end

/-! Functions. -/
/-- The end of a function's body: what it hands back, and what is asked of it. -/
def FinR (P : Program) (fn : Func) (R : Ending → World → Prop) (ds : List Deferred) (L : Env) (w : World) : Prop :=
  ds = [] ∧ ∃ v, (∀ a, Knows fn.ntmps ds L a → (results fn a.tmps).run P w = .ok v w) ∧ R (.returned v) w
def FinZ (R : Ending → World → Prop) (c : List PanicEntry) (ds : List Deferred) (_ : Env) (w : World) : Prop := ds = [] ∧ R (.panicked c) w
def NoX (_ : Nat) (_ : List Deferred) (_ : Env) (_ : World) : Prop := False

def argEnv : Nat → List Value → Env
  | _, [] => []
  | i, v :: r => (i, v) :: argEnv (i + 1) r

theorem look_argEnv : ∀ (l : List Value) (i t : Nat) (v : Value), look (argEnv i l) t = some v → ∃ j, t = i + j ∧ l[j]? = some v
  | [], i, t, v, h => by simp [argEnv, look] at h
  | u :: r, i, t, v, h => by
    simp only [argEnv, look] at h
    cases hb : Nat.beq i t with
    | true =>
      have := Nat.eq_of_beq_eq_true hb
      subst this
      simp only [hb, cond_true, Option.some.injEq] at h
      exact ⟨0, rfl, by simpa using h⟩
    | false =>
      simp only [hb, cond_false] at h
      obtain ⟨j, rfl, hj⟩ := look_argEnv r (i + 1) t v h
      exact ⟨j + 1, by omega, by simpa using hj⟩

theorem calls_cw {P : Program} {f : FuncId} {fn : Func} {c : Code} {l : List Value} {w : World} {R : Ending → World → Prop} {N : Nat}
    (hf : P.funcs[f]? = some fn) (hb : fn.body = some c) (hN : fn.ntmps = N) (hl : Nat.ble l.length N = true)
    (h : CW P N c [] (argEnv 0 l) w (FinR P fn R) (FinR P fn R) NoX (FinZ R)) : Calls P f l.toArray w R := by
  subst hN
  refine calls_of_wp hf hb (wp_mono (h _ ⟨?_, rfl, ?_⟩) ?_)
  · have : l.length ≤ fn.ntmps := Nat.le_of_ble_eq_true hl
    simp; omega
  · intro t v ht
    obtain ⟨j, rfl, hj⟩ := look_argEnv l 0 t v ht
    have hlt : j < l.length := by
      rcases Nat.lt_or_ge j l.length with h | h
      · exact h
      · simp [List.getElem?_eq_none h] at hj
    simp only [Nat.zero_add]
    rw [Array.getElem?_append_left (by simpa using hlt)]
    simpa using hj
  · intro e a w' hq
    cases e with
    | normal => obtain ⟨ds, L, ha, rfl, v, hv, hR⟩ := hq; exact ⟨ha.defers, v, hv a ha, hR⟩
    | ret => obtain ⟨ds, L, ha, rfl, v, hv, hR⟩ := hq; exact ⟨ha.defers, v, hv a ha, hR⟩
    | panic ch => obtain ⟨ds, L, ha, rfl, hR⟩ := hq; exact ⟨ha.defers, hR⟩
    | exit i => obtain ⟨ds, L, ha, hx⟩ := hq; exact hx.elim
    | goto l => exact hq.elim
    | outgrown => exact hq.elim

section
variable {P : Program} {fn : Func} {R : Ending → World → Prop} {L : Env} {w : World}
theorem Knows.getD {N : Nat} {ds : List Deferred} {L : Env} {a : Act} (h : Knows N ds L a) {t : Nat} {v : Value} (ht : look L t = some v) : a.tmps.getD t undef = v := by
  simp only [Array.getD_eq_getD_getElem?, h.val t v ht, Option.getD_some]
theorem fin0 (hr : fn.results = #[]) (h : R (.returned (.tuple #[])) w) : FinR P fn R [] L w := ⟨rfl, _, fun a _ => results_none hr _ _ _, h⟩
theorem fin1 {t : Nat} {v : Value} (hr : fn.results = #[.tmp t]) (hv : look L t = some v) (h : R (.returned v) w) : FinR P fn R [] L w :=
  ⟨rfl, v, fun a ha => by rw [results_tmp hr, ha.getD hv], h⟩
theorem fin2 {t u : Nat} {v x : Value} (hr : fn.results = #[.tmp t, .tmp u]) (hv : look L t = some v) (hx : look L u = some x) (h : R (.returned (.tuple #[v, x])) w) : FinR P fn R [] L w :=
  ⟨rfl, _, fun a ha => by rw [results_tmp2 hr, ha.getD hv, ha.getD hx], h⟩
theorem fin3 {t u s : Nat} {v x y : Value} (hr : fn.results = #[.tmp t, .tmp u, .tmp s]) (hv : look L t = some v) (hx : look L u = some x) (hy : look L s = some y) (h : R (.returned (.tuple #[v, x, y])) w) : FinR P fn R [] L w :=
  ⟨rfl, _, fun a ha => by simp [results, hr, ← Array.getD_eq_getD_getElem?, ha.getD hv, ha.getD hx, ha.getD hy], h⟩
theorem fin4 {t u s r : Nat} {v x y z : Value} (hr : fn.results = #[.tmp t, .tmp u, .tmp s, .tmp r]) (hv : look L t = some v) (hx : look L u = some x) (hy : look L s = some y) (hz : look L r = some z) (h : R (.returned (.tuple #[v, x, y, z])) w) : FinR P fn R [] L w :=
  ⟨rfl, _, fun a ha => by simp [results, hr, ← Array.getD_eq_getD_getElem?, ha.getD hv, ha.getD hx, ha.getD hy, ha.getD hz], h⟩
end
end Go.Sx
