/-
  The pure side: what a Go function reckons, as a plain Lean function into Option (none: it panics, or a number leaves its kind), loops by a combinator, and the rules by which code that walks along such a text is shown to follow it. General: nothing of the program is named here.
-/
import Derived.Test.YtecmlmngcnionaaSxStore
namespace Go.Sx
open Go Go.RowKit

theorem bnd {α β : Type} {a : Option α} {f : α → Option β} {r : β} (h : Option.bind a f = some r) : ∃ x, a = some x ∧ f x = some r := by
  cases a with
  | none => cases h
  | some x => exact ⟨x, rfl, h⟩
theorem cdT {α : Type} {b : Bool} {A B : Option α} {r : α} (hb : b = true) (h : cond b A B = some r) : A = some r := by subst hb; exact h
theorem cdF {α : Type} {b : Bool} {A B : Option α} {r : α} (hb : b = false) (h : cond b A B = some r) : B = some r := by subst hb; exact h
theorem elimL {α β γ : Type} {f : α → Option γ} {g : β → Option γ} {a : α} {r : γ} (h : Sum.elim f g (.inl a) = some r) : f a = some r := h
theorem elimR {α β γ : Type} {f : α → Option γ} {g : β → Option γ} {b : β} {r : γ} (h : Sum.elim f g (.inr b) = some r) : g b = some r := h
theorem inj2 {α β : Type} {a a' : α} {b b' : β} (h : some (a, b) = some (a', b')) : a = a' ∧ b = b' := by cases h; exact ⟨rfl, rfl⟩
theorem inj3 {α β γ : Type} {a a' : α} {b b' : β} {c c' : γ} (h : some (a, b, c) = some (a', b', c')) : a = a' ∧ b = b' ∧ c = c' := by cases h; exact ⟨rfl, rfl, rfl⟩
theorem inj4 {α β γ δ : Type} {a a' : α} {b b' : β} {c c' : γ} {d d' : δ} (h : some (a, b, c, d) = some (a', b', c', d')) : a = a' ∧ b = b' ∧ c = c' ∧ d = d' := by cases h; exact ⟨rfl, rfl, rfl, rfl⟩
/-- A number that has to fit its kind. -/
def chk (k : IntKind) (x : Int) : Option Int := if k.min ≤ x ∧ x ≤ k.max then some x else none
theorem chk_out {k : IntKind} {x y : Int} (h : chk k x = some y) : y = x ∧ InK k y := by
  unfold chk at h
  split at h
  · rename_i hk; cases h; exact ⟨rfl, hk⟩
  · cases h
theorem chk_in {k : IntKind} {x : Int} (h : InK k x) : chk k x = some x := if_pos h
theorem chk_i64 {x : Int} (h : -9223372036854775808 ≤ x ∧ x ≤ 9223372036854775807) : chk .i64 x = some x := chk_in (InK.i64.2 h)
/-- An element by an index. -/
def ixo {α : Type} (l : List α) (i : Int) : Option α := if 0 ≤ i then l[i.toNat]? else none
theorem ixo_out {α : Type} {l : List α} {i : Int} {y : α} (h : ixo l i = some y) : 0 ≤ i ∧ i < l.length ∧ l[i.toNat]? = some y := by
  unfold ixo at h
  split at h
  · rename_i hi
    have : i.toNat < l.length := by
      rcases Nat.lt_or_ge i.toNat l.length with h1 | h1
      · exact h1
      · rw [List.getElem?_eq_none h1] at h; cases h
    exact ⟨hi, by omega, h⟩
  · cases h
theorem ixo_nat {α : Type} {l : List α} {i : Nat} : ixo l (i : Int) = l[i]? := by simp [ixo]
theorem ixo_some {α : Type} {l : List α} {i : Int} {y : α} (h0 : 0 ≤ i) (h : l[i.toNat]? = some y) : ixo l i = some y := by simp [ixo, h0, h]
/-- A condition. -/
def need (b : Bool) : Option Unit := if b then some () else none
theorem need_out {b : Bool} {u : Unit} (h : need b = some u) : b = true := by unfold need at h; split at h; assumption; cases h
/-- What is written at an index. -/
def seto {α : Type} (l : List α) (i : Int) (x : α) : Option (List α) := if 0 ≤ i ∧ i < l.length then some (l.set i.toNat x) else none
theorem seto_out {α : Type} {l m : List α} {i : Int} {x : α} (h : seto l i x = some m) : 0 ≤ i ∧ i < l.length ∧ m = l.set i.toNat x := by
  unfold seto at h
  split at h
  · rename_i hi; cases h; exact ⟨hi.1, hi.2, rfl⟩
  · cases h
instance {k : IntKind} {x : Int} : Decidable (InK k x) := inferInstanceAs (Decidable (_ ∧ _))
theorem seto_get {α : Type} {l m : List α} {i : Int} {x : α} (h : seto l i x = some m) : ixo m i = some x := by
  obtain ⟨h0, h1, rfl⟩ := seto_out h
  exact ixo_some h0 (List.getElem?_set_self (by omega))
def quoO (k : IntKind) (x y : Int) : Option Int := if 0 ≤ x ∧ 0 < y ∧ InK k x then some (x / y) else none
theorem quoO_out {k : IntKind} {x y z : Int} (h : quoO k x y = some z) : 0 ≤ x ∧ 0 < y ∧ InK k x ∧ z = x / y := by
  unfold quoO at h
  split at h
  · rename_i hi; cases h; exact ⟨hi.1, hi.2.1, hi.2.2, rfl⟩
  · cases h
def remO (x y : Int) : Option Int := if 0 ≤ x ∧ 0 < y then some (x % y) else none
theorem remO_out {x y z : Int} (h : remO x y = some z) : 0 ≤ x ∧ 0 < y ∧ z = x % y := by
  unfold remO at h
  split at h
  · rename_i hi; cases h; exact ⟨hi.1, hi.2, rfl⟩
  · cases h
/-- s[lo:], s[:hi], s[lo:hi]. -/
def cutLo {α : Type} (l : List α) (i : Int) : Option (List α) := if 0 ≤ i ∧ i ≤ l.length then some (l.drop i.toNat) else none
def cutHi {α : Type} (l : List α) (i : Int) : Option (List α) := if 0 ≤ i ∧ i ≤ l.length then some (l.take i.toNat) else none
theorem cutLo_out {α : Type} {l m : List α} {i : Int} (h : cutLo l i = some m) : (0 ≤ i ∧ i ≤ l.length) ∧ m = l.drop i.toNat := by
  unfold cutLo at h
  split at h
  · rename_i hi; cases h; exact ⟨hi, rfl⟩
  · cases h
theorem cutHi_out {α : Type} {l m : List α} {i : Int} (h : cutHi l i = some m) : (0 ≤ i ∧ i ≤ l.length) ∧ m = l.take i.toNat := by
  unfold cutHi at h
  split at h
  · rename_i hi; cases h; exact ⟨hi, rfl⟩
  · cases h

/-- append. -/
def appo {α : Type} (b : Nat) (xs ys : List α) : Option (List α) := if (xs.length + ys.length) * b ≤ 140737488355328 ∧ xs.length + ys.length ≤ 140737488355328 then some (xs ++ ys) else none
theorem appo_out {α : Type} {b : Nat} {xs ys l : List α} (h : appo b xs ys = some l) : ((xs.length + ys.length) * b ≤ 140737488355328 ∧ xs.length + ys.length ≤ 140737488355328) ∧ l = xs ++ ys := by
  unfold appo at h
  split at h
  · rename_i hi; cases h; exact ⟨hi, rfl⟩
  · cases h
theorem RdS.inK {α : Type} {E : Enc α} {M : List Nat} {w : World} {v : Value} {xs : List α} (hr : RdS E M w v xs) : InK .i64 xs.length := InK.i64.2 (by have := hr.len; omega)
theorem Own.inK {α : Type} {E : Enc α} {e : TypeId} {Bb : Nat} {M : List Nat} {w : World} {v : Value} {xs : List α} (hr : Own E e Bb M w v xs) : InK .i64 xs.length := InK.i64.2 (by have := hr.len; omega)
theorem Cells.sub {w : World} {b o' : Nat} {cs : List Value} (h : Cells w b o' cs) (o n : Nat) : Cells w b (o' + o) ((cs.drop o).take n) := fun j v hj => by
  rw [List.getElem?_take] at hj
  split at hj
  · rw [List.getElem?_drop] at hj
    have := h _ _ hj
    rwa [← Nat.add_assoc] at this
  · cases hj

/-! Loops. -/
def iterM {S R : Type} (body : S → Option (S ⊕ R)) : Nat → S → Option R
  | 0, _ => none
  | n + 1, s => match body s with
    | none => none
    | some (.inl s') => iterM body n s'
    | some (.inr r) => some r
theorem iterM_succ {S R : Type} {body : S → Option (S ⊕ R)} : ∀ {n : Nat} {s : S} {r : R}, iterM body n s = some r → iterM body (n + 1) s = some r
  | 0, _, _, h => by cases h
  | n + 1, s, r, h => by
    simp only [iterM] at h
    split at h
    · cases h
    · rename_i s' hs; rw [iterM]; simp only [hs]; exact iterM_succ h
    · rename_i r' hs; rw [iterM]; simp only [hs]; exact h
theorem iterM_mono {S R : Type} {body : S → Option (S ⊕ R)} {n m : Nat} {s : S} {r : R} (h : iterM body n s = some r) (hm : n ≤ m) : iterM body m s = some r := by
  induction m with
  | zero => have : n = 0 := by omega
            subst this; exact h
  | succ m ih =>
    rcases Nat.lt_or_ge m n with h1 | h1
    · have : n = m + 1 := by omega
      subst this; exact h
    · exact iterM_succ (ih h1)
open Classical in
noncomputable def loopM {S R : Type} (body : S → Option (S ⊕ R)) (s : S) : Option R :=
  if h : ∃ r n, iterM body n s = some r then some h.choose else none
theorem loopM_some {S R : Type} {body : S → Option (S ⊕ R)} {s : S} {r : R} : loopM body s = some r ↔ ∃ n, iterM body n s = some r := by
  unfold loopM
  constructor
  · intro h
    split at h
    · rename_i hx; cases h; exact hx.choose_spec
    · cases h
  · rintro ⟨n, hn⟩
    have hx : ∃ r n, iterM body n s = some r := ⟨r, n, hn⟩
    rw [dif_pos hx]
    obtain ⟨m, hm⟩ := hx.choose_spec
    have h1 := iterM_mono hm (Nat.le_max_left m n)
    have h2 := iterM_mono hn (Nat.le_max_right m n)
    rw [h1] at h2; exact h2
/-- The loop's text, once. -/
theorem loopM_eq {S R : Type} (body : S → Option (S ⊕ R)) (s : S) : loopM body s = match body s with
    | none => none
    | some (.inl s') => loopM body s'
    | some (.inr r) => some r := by
  apply Option.ext
  intro r
  rw [loopM_some]
  cases hb : body s with
  | none =>
    simp only [reduceCtorEq, iff_false, not_exists]
    intro n hn
    cases n with
    | zero => cases hn
    | succ n => simp [iterM, hb] at hn
  | some y =>
    cases y with
    | inl s' =>
      simp only [loopM_some]
      constructor
      · rintro ⟨n, hn⟩
        cases n with
        | zero => cases hn
        | succ n => exact ⟨n, by simpa [iterM, hb] using hn⟩
      · rintro ⟨n, hn⟩
        exact ⟨n + 1, by simpa [iterM, hb] using hn⟩
    | inr r' =>
      constructor
      · rintro ⟨n, hn⟩
        cases n with
        | zero => cases hn
        | succ n => simpa [iterM, hb] using hn
      · intro h; exact ⟨1, by simpa [iterM, hb] using h⟩
theorem loopM_go {S R : Type} {body : S → Option (S ⊕ R)} {s s' : S} (h : body s = some (.inl s')) : loopM body s = loopM body s' := by rw [loopM_eq, h]
theorem loopM_end {S R : Type} {body : S → Option (S ⊕ R)} {s : S} {r : R} (h : body s = some (.inr r)) : loopM body s = some r := by rw [loopM_eq, h]
/-- A loop by what holds at each round's head. -/
theorem loopM_inv {S R : Type} {body : S → Option (S ⊕ R)} (I : S → Prop) (μ : S → Nat) {Q : R → Prop} (step : ∀ s, I s → ∃ y, body s = some y ∧ (∀ s', y = .inl s' → I s' ∧ μ s' < μ s) ∧ (∀ r, y = .inr r → Q r)) :
    ∀ s, I s → ∃ r, loopM body s = some r ∧ Q r := by
  intro s
  induction hn : μ s using Nat.strongRecOn generalizing s with
  | _ n ih =>
    intro hI
    obtain ⟨y, hy, hl, hr⟩ := step s hI
    cases y with
    | inl s' =>
      obtain ⟨h1, h2⟩ := hl s' rfl
      rw [loopM_go hy]
      exact ih _ (by omega) s' rfl h1
    | inr r => exact ⟨r, loopM_end hy, hr r rfl⟩
/-- The same for one answer. -/
theorem loopM_is {S R : Type} {body : S → Option (S ⊕ R)} (I : S → Prop) (μ : S → Nat) (r : R) (step : ∀ s, I s → (∃ s', body s = some (.inl s') ∧ I s' ∧ μ s' < μ s) ∨ body s = some (.inr r)) :
    ∀ s, I s → loopM body s = some r := by
  intro s hs
  obtain ⟨r', h1, h2⟩ := loopM_inv (Q := fun x => x = r) I μ (fun s hs => by
    rcases step s hs with ⟨s', h, h1, h2⟩ | h
    · exact ⟨_, h, (fun x hx => by cases hx; exact ⟨h1, h2⟩), (fun x hx => by cases hx)⟩
    · exact ⟨_, h, (fun x hx => by cases hx), (fun x hx => by cases hx; rfl)⟩) s hs
  rw [h1, h2]

section
variable {P : Program} {N : Nat} {ops : Array Oper} {q : Md} {rest : List Oper} {ds : List Deferred} {L : Env} {w : World} {A B : Out} {X : Nat → Out} {Z : List PanicEntry → Out}
/-- Two pieces of code, with what is known between them: all behind the first m entries stays. -/
theorem cw_seqD (m : Nat) {ι : Type} {x y : Code} (E : ι → Env) (I : ι → World → Prop)
    (hx : CW P N x ds L w (fun ds' L' w' => ds' = ds ∧ ∃ i, I i w' ∧ Sub (E i ++ L.drop m) L') B X Z)
    (hy : ∀ i w', I i w' → CW P N y ds (E i ++ L.drop m) w' A B X Z) : CW P N (.seq x y) ds L w A B X Z :=
  cw_seq (cw_mono hx fun e a w' hq => by
    cases e with
    | normal => obtain ⟨ds', L', ha, rfl, i, hI, hs⟩ := hq; exact ⟨_, L', ha, fun a' ha' => hy i w' hI a' (ha'.sub hs)⟩
    | _ => exact hq)
theorem cw_unitD (m : Nat) {ι : Type} {x : Code} (E : ι → Env) (I : ι → World → Prop)
    (hx : CW P N x ds L w (fun ds' L' w' => ds' = ds ∧ ∃ i, I i w' ∧ Sub (E i ++ L.drop m) L') B X Z)
    (hy : ∀ i w', I i w' → A ds (E i ++ L.drop m) w') : CW P N x ds L w A B X Z :=
  cw_mono hx fun e a w' hq => by
    cases e with
    | normal => obtain ⟨ds', L', ha, rfl, i, hI, hs⟩ := hq; exact ⟨_, _, ha.sub hs, hy i w' hI⟩
    | _ => exact hq
/-- A loop along loopM: at each round's head the frame is known as E i, I i holds, and what is left of the loop is that of st i. -/
theorem cw_loopM (m : Nat) {S R : Type} {ι : Type} {c : Code} (body : S → Option (S ⊕ R)) (E : ι → Env) (st : ι → S) (I : ι → World → Prop) (i0 : ι) {x : R} (hx : loopM body (st i0) = some x) (h0 : I i0 w) (hs : Sub (E i0 ++ L.drop m) L)
    (round : ∀ i w, I i w → ∀ y, body (st i) = some y → (∀ r, y = .inr r → r = x) → CW P N c ds (E i ++ L.drop m) w (fun ds' L' w' => ds' = ds ∧ ∃ i', (I i' w' ∧ y = .inl (st i')) ∧ Sub (E i' ++ L.drop m) L') B X Z) : CW P N (.loop c) ds L w A B X Z := by
  obtain ⟨n, hn⟩ := loopM_some.1 hx
  refine cw_loop (ι := ι × Nat) (fun p => E p.1 ++ L.drop m) (fun p w => I p.1 w ∧ iterM body p.2 (st p.1) = some x) (fun p => p.2) (i0, n) ⟨h0, hn⟩ hs fun p w hp => ?_
  obtain ⟨i, n⟩ := p
  obtain ⟨hI, hn⟩ := hp
  cases n with
  | zero => cases hn
  | succ n =>
    cases hb : body (st i) with
    | none => simp [iterM, hb] at hn
    | some y =>
      refine cw_mono (round i w hI y hb fun r hr => by subst hr; simpa [iterM, hb] using hn) fun e a w' hq => ?_
      cases e with
      | normal =>
        obtain ⟨ds', L', ha, rfl, i', ⟨hI', hy⟩, hsub⟩ := hq
        refine ⟨_, L', ha, rfl, (i', n), ⟨hI', ?_⟩, hsub, Nat.lt_succ_self n⟩
        subst hy
        simpa [iterM, hb] using hn
      | _ => exact hq
end

/-! Operations whose pure text may fail. -/
section
variable {P : Program} {N : Nat} {ops : Array Oper} {q : Md} {rest : List Oper} {ds : List Deferred} {L : Env} {w : World} {A B : Out} {X : Nat → Out} {Z : List PanicEntry → Out} {d : Nat} {ty : TypeId} {pos : String} {af : Array Edge}
section arith
variable {t t' : TypeId} {x y : Operand} {k : IntKind} {i j n : Int} (hx : ev L x = some (.int k i)) (hy : ev L y = some (.int k j)) (hN : Nat.blt d N = true)
include hx hy hN
theorem p_add (hn : n = i + j ∧ InK k n) (h : Reg P N ops q rest ds ((d, .int k n) :: L) w A B X Z) : Reg P N ops q (⟨some d, .binOp .add t x y t', ty, pos, af, none⟩ :: rest) ds L w A B X Z := by
  obtain ⟨rfl, hr⟩ := hn; exact s_add hx hy hN hr h
theorem p_sub (hn : n = i - j ∧ InK k n) (h : Reg P N ops q rest ds ((d, .int k n) :: L) w A B X Z) : Reg P N ops q (⟨some d, .binOp .sub t x y t', ty, pos, af, none⟩ :: rest) ds L w A B X Z := by
  obtain ⟨rfl, hr⟩ := hn; exact s_sub hx hy hN hr h
theorem p_mul (hn : n = i * j ∧ InK k n) (h : Reg P N ops q rest ds ((d, .int k n) :: L) w A B X Z) : Reg P N ops q (⟨some d, .binOp .mul t x y t', ty, pos, af, none⟩ :: rest) ds L w A B X Z := by
  obtain ⟨rfl, hr⟩ := hn; exact s_mul hx hy hN hr h
theorem p_quo (hn : 0 ≤ i ∧ 0 < j ∧ InK k i ∧ n = i / j) (h : Reg P N ops q rest ds ((d, .int k n) :: L) w A B X Z) : Reg P N ops q (⟨some d, .binOp .quo t x y t', ty, pos, af, none⟩ :: rest) ds L w A B X Z := by
  obtain ⟨h0, h1, hr, rfl⟩ := hn; exact s_quo hx hy hN h0 h1 hr h
theorem p_rem (hn : 0 ≤ i ∧ 0 < j ∧ n = i % j) (h : Reg P N ops q rest ds ((d, .int k n) :: L) w A B X Z) : Reg P N ops q (⟨some d, .binOp .rem t x y t', ty, pos, af, none⟩ :: rest) ds L w A B X Z := by
  obtain ⟨h0, h1, rfl⟩ := hn; exact s_rem hx hy hN h0 h1 h
end arith
theorem p_neg {t : TypeId} {x : Operand} {k : IntKind} {i n : Int} (hx : ev L x = some (.int k i)) (hN : Nat.blt d N = true) (hn : n = -i ∧ InK k n) (h : Reg P N ops q rest ds ((d, .int k n) :: L) w A B X Z) :
    Reg P N ops q (⟨some d, .unOp .neg t x, ty, pos, af, none⟩ :: rest) ds L w A B X Z := by
  obtain ⟨rfl, hr⟩ := hn; exact s_neg hx hN hr h
theorem p_cvt {s t : TypeId} {x : Operand} {k k' : IntKind} {i n : Int} {du : TypeDesc} (hx : ev L x = some (.int k i)) (hs : P.underlying s = some du) (ht : P.underlying t = some (.int k')) (hN : Nat.blt d N = true) (hn : n = i ∧ InK k' n)
    (h : Reg P N ops q rest ds ((d, .int k' n) :: L) w A B X Z) : Reg P N ops q (⟨some d, .convert s t x, ty, pos, af, none⟩ :: rest) ds L w A B X Z := by
  obtain ⟨rfl, hr⟩ := hn; exact s_cvt hx hs ht hN hr h
/-- The address of a slice's element. -/
theorem p_ia {α : Type} {E : Enc α} {M : List Nat} {t e : TypeId} {x y : Operand} {v : Value} {xs : List α} {k : IntKind} {i : Int} {z : α}
    (hx : ev L x = some v) (hy : ev L y = some (.int k i)) (hv : RdS E M w v xs) (hi : ixo xs i = some z) (ht : P.underlying t = some (.slice e)) (hs : ∀ w, (sizeOf e).run P w = .ok E.n w) (hN : Nat.blt d N = true)
    (h : ∀ b o cs, E.R M w cs z → RdC M w b o cs → Reg P N ops q rest ds ((d, .pointer (some ⟨b, o, none⟩)) :: L) w A B X Z) :
    Reg P N ops q (⟨some d, .indexAddr t x y, ty, pos, af, none⟩ :: rest) ds L w A B X Z := by
  obtain ⟨h0, h1, hz⟩ := ixo_out hi
  refine s_ia hx hy hv ⟨h0, h1⟩ ht hs hN fun b o cs y hy' hR hC => ?_
  rw [hz] at hy'; cases hy'
  exact h b o cs hR hC
end
end Go.Sx
