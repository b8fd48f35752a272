/-
  What a function owns, as a list of things (a variable's cells, a slice of its own), with what it may have done to memory so far. General: nothing of the program is named here.
-/
import Derived.Test.YtecmlmngcnionaaSxPure
namespace Go.Sx
open Go Go.RowKit

/-- A thing that is owned: its blocks now, the blocks of the caller's that may be among them, what holds of it (M: the blocks that readings avoid). -/
structure Res where
  fp : List Nat
  mu : List Nat
  holds : List Nat → World → Prop
  adv : ∀ {M M' : List Nat} {w w' : World}, Adv M M' w w' → (∀ b ∈ fp, w'.heap[b]? = w.heap[b]?) → holds M w → holds M' w'
  lt : ∀ {M : List Nat} {w : World}, holds M w → ∀ b ∈ fp, b < w.heap.size
/-- The blocks that readings avoid. -/
def mm : List Res → List Nat → List Nat
  | [], M => M
  | r :: σ, M => r.fp ++ mm σ M
theorem mem_mm {σ : List Res} {M : List Nat} {b : Nat} : b ∈ mm σ M ↔ (∃ r ∈ σ, b ∈ r.fp) ∨ b ∈ M := by
  induction σ with
  | nil => simp [mm]
  | cons r σ ih => simp [mm, ih, or_assoc]

structure Hp (w0 : World) (Mu M : List Nat) (σ : List Res) (w : World) : Prop where
  kp : Kp Mu w0 w
  mlt : MLt (mm σ M) w
  adv : Adv (Mu ++ M) (mm σ M) w0 w
  base : MLt M w0
  sepM : ∀ r ∈ σ, ∀ b ∈ r.fp, b ∉ M
  own : ∀ r ∈ σ, (∀ b ∈ r.mu, b ∈ Mu) ∧ ∀ b ∈ r.fp, b ∈ r.mu ∨ w0.heap.size ≤ b
  dis : ∀ (i j : Nat) (r r' : Res), σ[i]? = some r → σ[j]? = some r' → i ≠ j → ∀ b ∈ r.fp, b ∉ r'.fp
  all : ∀ r ∈ σ, r.holds (mm σ M) w

section
variable {w0 w w' : World} {Mu M : List Nat} {σ : List Res}
theorem Hp.start (hM : MLt M w) : Hp w Mu M [] w := ⟨Kp.refl _ _, hM, Adv.drop (fun _ hb => List.mem_append_right _ hb), hM, (fun _ h => by cases h), (fun _ h => by cases h), (fun _ _ _ _ h => by simp at h), fun _ h => by cases h⟩
theorem Hp.ext (h : Hp w0 Mu M σ w) (e : Ext w w') : Hp w0 Mu M σ w' :=
  ⟨h.kp.trans e.kp, h.mlt.ext e, h.adv.trans (Adv.of_ext e), h.base, h.sepM, h.own, h.dis, fun r hr => Res.adv r (Adv.of_ext e) (fun b hb => e.block b (r.lt (h.all r hr) b hb) (by simp)) (h.all r hr)⟩
theorem Hp.get (h : Hp w0 Mu M σ w) (i : Nat) {r : Res} (hi : σ[i]? = some r) : r.holds (mm σ M) w := h.all r (List.mem_of_getElem? hi)
/-- Something new. -/
theorem Hp.addA {r : Res} (h : Hp w0 Mu M σ w) (e : Ext w w') (hn : ∀ b ∈ r.fp, w.heap.size ≤ b ∧ b < w'.heap.size) : Adv (mm σ M) (mm (r :: σ) M) w w' :=
  ⟨e.kp, fun b hb => (List.mem_append.1 hb).elim (fun h => .inr (hn b h).1) .inl⟩
theorem Hp.add {r : Res} (h : Hp w0 Mu M σ w) (e : Ext w w') (hn : ∀ b ∈ r.fp, w.heap.size ≤ b ∧ b < w'.heap.size) (hm : r.mu = []) (hh : r.holds (mm (r :: σ) M) w') : Hp w0 Mu M (r :: σ) w' := by
  have hA := h.addA e hn
  have h' := h.ext e
  refine ⟨h'.kp, fun b hb => ?_, h.adv.trans hA, h.base, fun s hs b hb hbm => ?_, fun s hs => ?_, fun i j s s' hi hj hne b hb hb' => ?_, fun s hs => ?_⟩
  · exact (List.mem_append.1 hb).elim (fun h => (hn b h).2) (h'.mlt b)
  · rcases List.mem_cons.1 hs with rfl | hs
    · have := (hn b hb).1
      have := h.base b hbm
      have := h.kp.size
      omega
    · exact h.sepM s hs b hb hbm
  · rcases List.mem_cons.1 hs with rfl | hs
    · exact ⟨(by rw [hm]; intro b hb; cases hb), fun b hb => .inr (Nat.le_trans h.kp.size (hn b hb).1)⟩
    · exact h.own s hs
  · cases i with
    | zero =>
      simp at hi; subst hi
      cases j with
      | zero => exact hne rfl
      | succ j =>
        have := s'.lt (h.all s' (List.mem_of_getElem? hj)) b hb'
        have := (hn b hb).1
        omega
    | succ i =>
      cases j with
      | zero =>
        simp at hj; subst hj
        have := s.lt (h.all s (List.mem_of_getElem? hi)) b hb
        have := (hn b hb').1
        omega
      | succ j => exact h.dis i j s s' hi hj (by omega) b hb hb'
  · rcases List.mem_cons.1 hs with rfl | hs
    · exact hh
    · exact s.adv hA (fun b hb => e.block b (s.lt (h.all s hs) b hb) (by simp)) (h.all s hs)
/-- Something changed. -/
theorem mm_set {r : Res} {i : Nat} {b : Nat} (hb : b ∈ mm (σ.set i r) M) : b ∈ r.fp ∨ b ∈ mm σ M := by
  rcases mem_mm.1 hb with ⟨s, hs, hb'⟩ | hb
  · rcases List.mem_or_eq_of_mem_set hs with hs | rfl
    · exact .inr (mem_mm.2 (.inl ⟨s, hs, hb'⟩))
    · exact .inl hb'
  · exact .inr (mem_mm.2 (.inr hb))
theorem Hp.updA {r r' : Res} (h : Hp w0 Mu M σ w) (i : Nat) (hi : σ[i]? = some r) (hk : Kp r.fp w w') (hn : ∀ b ∈ r'.fp, b ∈ r.fp ∨ w.heap.size ≤ b) : Adv (mm σ M) (mm (σ.set i r') M) w w' := by
  have hin : ∀ b ∈ r.fp, b ∈ mm σ M := fun b hb => mem_mm.2 (.inl ⟨r, List.mem_of_getElem? hi, hb⟩)
  exact ⟨hk.mono fun b hb => .inl (hin b hb), fun b hb => (mm_set hb).elim (fun h1 => (hn b h1).elim (fun h2 => .inl (hin b h2)) .inr) .inl⟩
theorem mem_split {i : Nat} {r : Res} (hi : σ[i]? = some r) {b : Nat} (hb : b ∈ mm σ M) : b ∈ r.fp ∨ b ∈ mm (σ.eraseIdx i) M := by
  rcases mem_mm.1 hb with ⟨s, hs, hb⟩ | hb
  · obtain ⟨j, hj⟩ := List.getElem?_of_mem hs
    by_cases hji : j = i
    · subst hji; rw [hi] at hj; cases hj; exact .inl hb
    · refine .inr (mem_mm.2 (.inl ⟨s, ?_, hb⟩))
      rcases Nat.lt_or_ge j i with h1 | h1
      · exact List.mem_of_getElem? (i := j) (by rw [List.getElem?_eraseIdx, if_pos h1]; exact hj)
      · exact List.mem_of_getElem? (i := j - 1) (by rw [List.getElem?_eraseIdx, if_neg (by omega), show j - 1 + 1 = j by omega]; exact hj)
  · exact .inr (mem_mm.2 (.inr hb))
theorem mm_setE {r r' : Res} {i : Nat} (hi : σ[i]? = some r) {b : Nat} (hb : b ∈ mm (σ.set i r') M) : b ∈ r'.fp ∨ b ∈ mm (σ.eraseIdx i) M := by
  have hil : i < σ.length := by
    rcases Nat.lt_or_ge i σ.length with h1 | h1
    · exact h1
    · rw [List.getElem?_eq_none h1] at hi; cases hi
  have h1 : (σ.set i r')[i]? = some r' := by simp [hil]
  rcases mem_split h1 hb with h2 | h2
  · exact .inl h2
  · rw [List.eraseIdx_set_eq] at h2; exact .inr h2
theorem Hp.upd2 {r r' : Res} (h : Hp w0 Mu M σ w) (i : Nat) (hi : σ[i]? = some r) (hk : Kp r.fp w w') (hn : ∀ b ∈ r'.fp, b ∈ r.fp ∨ w.heap.size ≤ b) (hm : r'.mu = r.mu)
    (hh : ∀ M', (∀ b ∈ M', b ∈ r'.fp ∨ b ∈ mm (σ.eraseIdx i) M) → r'.holds M' w') : Hp w0 Mu M (σ.set i r') w' := by
  have hA := h.updA i hi hk hn
  have hr := List.mem_of_getElem? hi
  have hown := h.own r hr
  have hh' := hh (mm (σ.set i r') M) fun b hb => mm_setE hi hb
  have hil : i < σ.length := by
    rcases Nat.lt_or_ge i σ.length with h1 | h1
    · exact h1
    · rw [List.getElem?_eq_none h1] at hi; cases hi
  have hfp : ∀ b ∈ r'.fp, b ∈ r.fp ∨ w.heap.size ≤ b := hn
  -- the others do not lie in what was changed
  have hoth : ∀ j s, σ[j]? = some s → j ≠ i → ∀ b ∈ s.fp, b ∉ r'.fp ∧ w'.heap[b]? = w.heap[b]? := fun j s hj hne b hb => by
    have hlt := s.lt (h.all s (List.mem_of_getElem? hj)) b hb
    have hnr := h.dis j i s r hj hi hne b hb
    exact ⟨fun hb' => (hfp b hb').elim hnr (fun h => by omega), hk.block b hlt hnr⟩
  have hset : ∀ j s, (σ.set i r')[j]? = some s → (j = i ∧ s = r') ∨ (j ≠ i ∧ σ[j]? = some s) := fun j s hj => by
    rw [List.getElem?_set] at hj
    split at hj
    · rename_i e
      simp [hil] at hj; exact .inl ⟨e.symm, hj.symm⟩
    · rename_i e; exact .inr ⟨fun h => e h.symm, hj⟩
  refine ⟨h.kp.tail hk fun b hb => (hown.2 b hb).elim (fun h1 => .inl (hown.1 b h1)) .inr, fun b hb => ?_, h.adv.trans hA, h.base, fun s hs b hb hbm => ?_, fun s hs => ?_, fun j k s s' hj hk' hne b hb hb' => ?_, fun s hs => ?_⟩
  · rcases mm_set hb with h1 | h1
    · exact r'.lt hh' b h1
    · exact Nat.lt_of_lt_of_le (h.mlt b h1) hk.size
  · rcases List.mem_or_eq_of_mem_set hs with hs | rfl
    · exact h.sepM s hs b hb hbm
    · rcases hfp b hb with h1 | h1
      · exact h.sepM r hr b h1 hbm
      · have := h.base b hbm
        have := h.kp.size
        omega
  · rcases List.mem_or_eq_of_mem_set hs with hs | rfl
    · exact h.own s hs
    · refine ⟨by rw [hm]; exact hown.1, fun b hb => ?_⟩
      rcases hfp b hb with h1 | h1
      · rw [hm]; exact hown.2 b h1
      · exact .inr (Nat.le_trans h.kp.size h1)
  · rcases hset j s hj with ⟨rfl, rfl⟩ | ⟨h1, h1'⟩
    · rcases hset k s' hk' with ⟨rfl, rfl⟩ | ⟨h2, h2'⟩
      · exact hne rfl
      · exact (hoth k s' h2' h2 b hb').1 hb
    · rcases hset k s' hk' with ⟨rfl, rfl⟩ | ⟨h2, h2'⟩
      · exact (hoth j s h1' h1 b hb).1 hb'
      · exact h.dis j k s s' h1' h2' hne b hb hb'
  · obtain ⟨j, hj⟩ := List.getElem?_of_mem hs
    rcases hset j s hj with ⟨rfl, rfl⟩ | ⟨h1, h1'⟩
    · exact hh'
    · exact s.adv hA (fun b hb => (hoth j s h1' h1 b hb).2) (h.all s (List.mem_of_getElem? h1'))
theorem Hp.upd {r r' : Res} (h : Hp w0 Mu M σ w) (i : Nat) (hi : σ[i]? = some r) (hk : Kp r.fp w w') (hn : ∀ b ∈ r'.fp, b ∈ r.fp ∨ w.heap.size ≤ b) (hm : r'.mu = r.mu)
    (hh : ∀ M', (∀ b ∈ M', b ∈ r'.fp ∨ b ∈ mm σ M) → r'.holds M' w') : Hp w0 Mu M (σ.set i r') w' :=
  h.upd2 i hi hk hn hm fun M' hM' => hh M' fun b hb => (hM' b hb).elim .inl fun h1 => .inr (mem_mm.2 ((mem_mm.1 h1).elim (fun ⟨s, hs, hb⟩ => .inl ⟨s, (List.eraseIdx_sublist σ i).subset hs, hb⟩) .inr))
/-- What is owned no more. -/
theorem mm_sub {σ' : List Res} (hs : σ'.Sublist σ) {b : Nat} (hb : b ∈ mm σ' M) : b ∈ mm σ M := by
  rcases mem_mm.1 hb with ⟨s, h, hb⟩ | hb
  · exact mem_mm.2 (.inl ⟨s, hs.subset h, hb⟩)
  · exact mem_mm.2 (.inr hb)
theorem Hp.subA {σ' : List Res} (hs : σ'.Sublist σ) : Adv (mm σ M) (mm σ' M) w w := Adv.drop fun _ hb => mm_sub hs hb
theorem dis_sub {Q : Res → Res → Prop} {σ σ' : List Res} (hs : σ'.Sublist σ) (h : σ.Pairwise Q) : σ'.Pairwise Q := h.sublist hs
theorem pair_iff {σ : List Res} : (∀ (i j : Nat) (r r' : Res), σ[i]? = some r → σ[j]? = some r' → i ≠ j → ∀ b ∈ r.fp, b ∉ r'.fp) ↔ σ.Pairwise fun (r r' : Res) => ∀ b ∈ r.fp, b ∉ r'.fp := by
  rw [List.pairwise_iff_getElem]
  constructor
  · intro h i j hi hj hlt
    exact h i j _ _ (List.getElem?_eq_getElem hi) (List.getElem?_eq_getElem hj) (by omega)
  · intro h i j r r' hi hj hne b hb hb'
    have gi : i < σ.length := by rcases Nat.lt_or_ge i σ.length with h1 | h1; exact h1; rw [List.getElem?_eq_none h1] at hi; cases hi
    have gj : j < σ.length := by rcases Nat.lt_or_ge j σ.length with h1 | h1; exact h1; rw [List.getElem?_eq_none h1] at hj; cases hj
    rw [List.getElem?_eq_getElem gi] at hi; rw [List.getElem?_eq_getElem gj] at hj
    cases hi; cases hj
    rcases Nat.lt_or_gt_of_ne hne with h1 | h1
    · exact h i j gi gj h1 b hb hb'
    · exact h j i gj gi h1 b hb' hb
theorem Hp.sub {σ' : List Res} (hs : σ'.Sublist σ) (h : Hp w0 Mu M σ w) : Hp w0 Mu M σ' w :=
  ⟨h.kp, fun b hb => h.mlt b (mm_sub hs hb), h.adv.trans (Hp.subA hs), h.base, fun r hr => h.sepM r (hs.subset hr), fun r hr => h.own r (hs.subset hr), pair_iff.2 (dis_sub hs (pair_iff.1 h.dis)), fun r hr =>
    r.adv (Hp.subA hs) (fun _ _ => rfl) (h.all r (hs.subset hr))⟩
theorem Hp.dropN (k : Nat) (h : Hp w0 Mu M σ w) : Hp w0 Mu M (σ.drop k) w := h.sub (List.drop_sublist k σ)
theorem Hp.dropA (k : Nat) : Adv (mm σ M) (mm (σ.drop k) M) w w := Hp.subA (List.drop_sublist k σ)
theorem Hp.erase (k : Nat) (h : Hp w0 Mu M σ w) : Hp w0 Mu M (σ.eraseIdx k) w := h.sub (List.eraseIdx_sublist σ k)
theorem Hp.eraseA (k : Nat) : Adv (mm σ M) (mm (σ.eraseIdx k) M) w w := Hp.subA (List.eraseIdx_sublist σ k)
/-- A thing that is not the caller's is apart from all others. -/
theorem Hp.apart (h : Hp w0 Mu M σ w) (i : Nat) {r : Res} (hi : σ[i]? = some r) : ∀ b ∈ r.fp, b ∉ mm (σ.eraseIdx i) M := fun b hb hb' => by
  rcases mem_mm.1 hb' with ⟨s, hs, hb'⟩ | hb'
  · obtain ⟨j, hj⟩ := List.getElem?_of_mem hs
    rw [List.getElem?_eraseIdx] at hj
    split at hj
    · exact h.dis i j r s hi hj (by omega) b hb hb'
    · exact h.dis i (j + 1) r s hi hj (by omega) b hb hb'
  · exact h.sepM r (List.mem_of_getElem? hi) b hb hb'
end

/-! A variable's cells. -/
def rowR (e : TypeId) (b : Nat) (cs : List Value) : Res where
  fp := [b]
  mu := []
  holds := fun _ w => Row e w b cs
  adv := fun _ hb h => by
    have := hb b (by simp)
    exact this.trans h
  lt := fun h x hx => by
    have : x = b := by simpa using hx
    subst this; exact h.rd.lt
/-! A slice of one's own. -/
theorem Own.adv2 {α : Type} {E : Enc α} {e : TypeId} {Bb : Nat} {M M' : List Nat} {w w' : World} {v : Value} {xs : List α} (ha : Adv M M' w w') (hb : ∀ b ∈ ob v, w'.heap[b]? = w.heap[b]?) (h : Own E e Bb M w v xs) : Own E e Bb M' w' v xs := by
  rcases h with h | ⟨g, cap, cur, rfl, h1, h2, h3, h4, h5, h6⟩
  · exact .inl h
  · refine .inr ⟨g, cap, cur, rfl, h1, by rw [hb g (by simp [ob])]; exact h2, h3, h4, h5, Chunks.adv ⟨ha.kp.mono fun x hx => .inl (List.mem_cons_of_mem _ hx), fun b hb' => ?_⟩ h6⟩
    rcases List.mem_cons.1 hb' with rfl | h
    · exact .inl (List.mem_cons_self ..)
    · rcases ha.new b h with h | h
      · exact .inl (List.mem_cons_of_mem _ h)
      · exact .inr h
def ownR {α : Type} (mu : List Nat) (E : Enc α) (e : TypeId) (v : Value) (xs : List α) : Res where
  fp := ob v
  mu := mu
  holds := fun M w => Own E e 0 M w v xs
  adv := Own.adv2
  lt := fun h b hb => (h.ge b hb).2
theorem Own.any {α : Type} {E : Enc α} {e : TypeId} {Bb B' : Nat} {M : List Nat} {w : World} {v : Value} {xs : List α} (h : Own E e Bb M w v xs) (hB : ∀ b ∈ ob v, B' ≤ b) : Own E e B' M w v xs := by
  rcases h with h | ⟨g, cap, cur, rfl, h1, h2⟩
  · exact .inl h
  · exact .inr ⟨g, cap, cur, rfl, hB g (by simp [ob]), h2⟩
/-- Readings may avoid less. -/
theorem Own.mon {α : Type} {E : Enc α} {e : TypeId} {Bb : Nat} {M M' : List Nat} {w : World} {v : Value} {xs : List α} (h : Own E e Bb M w v xs) (hM : ∀ b ∈ M', b ∈ ob v ∨ b ∈ M) : Own E e Bb M' w v xs := by
  rcases h with h | ⟨g, cap, cur, rfl, h1, h2, h3, h4, h5, h6⟩
  · exact .inl h
  · refine .inr ⟨g, cap, cur, rfl, h1, h2, h3, h4, h5, Chunks.adv (Adv.drop fun b hb => ?_) h6⟩
    rcases List.mem_cons.1 hb with rfl | hb
    · exact List.mem_cons_self ..
    · rcases hM b hb with hb | hb
      · have : b = g := by simpa [ob] using hb
        subst this; exact List.mem_cons_self ..
      · exact List.mem_cons_of_mem _ hb

section
variable {w0 w : World} {Mu M : List Nat} {σ : List Res}
theorem Hp.row (h : Hp w0 Mu M σ w) (i : Nat) {e : TypeId} {b : Nat} {cs : List Value} (hi : σ[i]? = some (rowR e b cs)) : Row e w b cs := h.get i hi
theorem Hp.ownAt (h : Hp w0 Mu M σ w) (i : Nat) {α : Type} {mu : List Nat} {E : Enc α} {e : TypeId} {v : Value} {xs : List α} (hi : σ[i]? = some (ownR mu E e v xs)) : Own E e 0 (mm σ M) w v xs := h.get i hi
theorem Hp.ownSub (h : Hp w0 Mu M σ w) (i : Nat) {α : Type} {mu : List Nat} {E : Enc α} {e : TypeId} {v : Value} {xs : List α} (hi : σ[i]? = some (ownR mu E e v xs)) : ∀ b ∈ ob v, b ∈ mm σ M := fun b hb => mem_mm.2 (.inl ⟨_, List.mem_of_getElem? hi, hb⟩)
/-- A slice of one's own that is read from now on. -/
theorem Hp.freeze (h : Hp w0 Mu M σ w) (i : Nat) {α : Type} {mu : List Nat} {E : Enc α} {e : TypeId} {v : Value} {xs : List α} (hi : σ[i]? = some (ownR mu E e v xs)) : RdS E (mm (σ.eraseIdx i) M) w v xs :=
  ((h.ownAt i hi).mon fun b hb => .inr (mm_sub (List.eraseIdx_sublist σ i) hb)).rd fun b hb => h.apart i hi b hb
/-- A variable that is read from now on. -/
theorem Hp.freezeRow (h : Hp w0 Mu M σ w) (i : Nat) {e : TypeId} {b : Nat} {cs : List Value} (hi : σ[i]? = some (rowR e b cs)) : RdC (mm (σ.eraseIdx i) M) w b 0 cs :=
  RdC.of_row (h.apart i hi b (by simp [rowR])) (h.row i hi)
end

/-- Some of what is owned, in another order. -/
def nthR : List Res → Nat → Option Res
  | [], _ => none
  | r :: _, 0 => some r
  | _ :: σ, n + 1 => nthR σ n
theorem nthR_eq : ∀ (σ : List Res) (i : Nat), nthR σ i = σ[i]?
  | [], _ => rfl
  | _ :: _, 0 => rfl
  | _ :: σ, n + 1 => nthR_eq σ n
def sel (σ : List Res) : List Nat → List Res
  | [] => []
  | i :: r => match nthR σ i with
    | some x => x :: sel σ r
    | none => sel σ r
theorem mem_sel {σ : List Res} {x : Res} : ∀ {l : List Nat}, x ∈ sel σ l → ∃ i ∈ l, σ[i]? = some x
  | [], h => by cases h
  | i :: r, h => by
    simp only [sel] at h
    split at h
    · rename_i y hy
      rw [nthR_eq] at hy
      rcases List.mem_cons.1 h with rfl | h
      · exact ⟨i, by simp, hy⟩
      · obtain ⟨j, hj, hx⟩ := mem_sel h; exact ⟨j, by simp [hj], hx⟩
    · obtain ⟨j, hj, hx⟩ := mem_sel h; exact ⟨j, by simp [hj], hx⟩
def nodupN : List Nat → Bool
  | [] => true
  | i :: r => !r.contains i && nodupN r
theorem sel_pair {σ : List Res} {Q : Res → Res → Prop} (h : ∀ (i j : Nat) (r r' : Res), σ[i]? = some r → σ[j]? = some r' → i ≠ j → Q r r') : ∀ {l : List Nat}, nodupN l = true → (sel σ l).Pairwise Q
  | [], _ => List.Pairwise.nil
  | i :: r, hn => by
    simp only [nodupN, Bool.and_eq_true, Bool.not_eq_true', List.contains_eq_mem, decide_eq_false_iff_not] at hn
    simp only [sel]
    split
    · rename_i y hy
      rw [nthR_eq] at hy
      refine List.Pairwise.cons (fun x hx => ?_) (sel_pair h hn.2)
      obtain ⟨j, hj, hx⟩ := mem_sel hx
      exact h i j y x hy hx (fun e => hn.1 (e ▸ hj))
    · exact sel_pair h hn.2
section
variable {w0 w : World} {Mu M : List Nat} {σ : List Res}
theorem mm_sel {l : List Nat} {b : Nat} (hb : b ∈ mm (sel σ l) M) : b ∈ mm σ M := by
  rcases mem_mm.1 hb with ⟨s, h, hb⟩ | hb
  · obtain ⟨i, _, hi⟩ := mem_sel h; exact mem_mm.2 (.inl ⟨s, List.mem_of_getElem? hi, hb⟩)
  · exact mem_mm.2 (.inr hb)
theorem Hp.selA (l : List Nat) : Adv (mm σ M) (mm (sel σ l) M) w w := Adv.drop fun _ hb => mm_sel hb
theorem Hp.sel (h : Hp w0 Mu M σ w) (l : List Nat) (hl : nodupN l = true) : Hp w0 Mu M (sel σ l) w :=
  ⟨h.kp, fun b hb => h.mlt b (mm_sel hb), h.adv.trans (Hp.selA l), h.base, fun r hr => h.sepM r (by obtain ⟨i, _, hi⟩ := mem_sel hr; exact List.mem_of_getElem? hi), fun r hr => h.own r (by obtain ⟨i, _, hi⟩ := mem_sel hr; exact List.mem_of_getElem? hi),
   pair_iff.2 (sel_pair h.dis hl), fun r hr => r.adv (Hp.selA l) (fun _ _ => rfl) (h.all r (by obtain ⟨i, _, hi⟩ := mem_sel hr; exact List.mem_of_getElem? hi))⟩
/-- A slice of one's own, read while it is not written. -/
theorem Hp.lendRd (h : Hp w0 Mu M σ w) (l : List Nat) (i : Nat) {α : Type} {mu : List Nat} {E : Enc α} {e : TypeId} {v : Value} {xs : List α} (hl : l.contains i = false) (hi : σ[i]? = some (ownR mu E e v xs)) : RdS E (mm (Sx.sel σ l) M) w v xs :=
  ((h.ownAt i hi).mon fun b hb => .inr (mm_sel hb)).rd fun b hb hb' => by
    rcases mem_mm.1 hb' with ⟨s, hs, hb'⟩ | hb'
    · obtain ⟨j, hj, hs⟩ := mem_sel hs
      refine h.dis i j _ s hi hs (fun e => ?_) b hb hb'
      subst e
      simp at hl; exact hl hj
    · exact h.sepM _ (List.mem_of_getElem? hi) b hb hb'
/-- A slice of one's own that is nil. -/
theorem Hp.addNilA {α : Type} (E : Enc α) (e : TypeId) : Adv (mm σ M) (mm (ownR [] E e (.slice none 0 0) [] :: σ) M) w w := ⟨Kp.refl _ _, fun _ hb => .inl hb⟩
theorem Hp.addNil {α : Type} (h : Hp w0 Mu M σ w) (E : Enc α) (e : TypeId) : Hp w0 Mu M (ownR [] E e (.slice none 0 0) [] :: σ) w :=
  h.add (Kp.refl _ _) (fun _ hb => by cases hb) rfl (Own.nil _ _ _ _ _)
end

section
variable {P : Program} {N : Nat} {ops : Array Oper} {q : Md} {rest : List Oper} {ds : List Deferred} {L : Env} {w w0 : World} {A B : Out} {X : Nat → Out} {Z : List PanicEntry → Out} {d : Nat} {ty : TypeId} {pos : String} {af : Array Edge} {Mu M : List Nat} {σ : List Res}
/-- A new variable that holds a value. -/
theorem y_box {e : TypeId} {x : Operand} {v : Value} {cs : List Value} (hI : Hp w0 Mu M σ w) (hx : ev L x = some v) (hc : v.cells = cs.toArray) (hN : Nat.blt d N = true)
    (h : ∀ b w', Hp w0 Mu M (rowR e b cs :: σ) w' → Adv (mm σ M) (mm (rowR e b cs :: σ) M) w w' → Reg P N ops .seq rest ds ((d, .pointer (some ⟨b, 0, none⟩)) :: L) w' A B X Z) :
    Reg P N ops .seq (⟨some d, .box e x, ty, pos, af, none⟩ :: rest) ds L w A B X Z :=
  s_box hx hc hN fun b w' hb hx' hlt hW => by
    have hn : ∀ x ∈ (rowR e b cs).fp, w.heap.size ≤ x ∧ x < w'.heap.size := fun x hx => by
      have : x = b := by simpa [rowR] using hx
      omega
    exact h b w' (hI.add hx' hn rfl hW) (hI.addA hx' hn)
theorem y_al {e : TypeId} {z : Value} {cs : List Value} (hI : Hp w0 Mu M σ w) (hz : ∀ w, (zeroValue e).run P w = .ok z w) (hc : z.cells = cs.toArray) (hN : Nat.blt d N = true)
    (h : ∀ b w', Hp w0 Mu M (rowR e b cs :: σ) w' → Adv (mm σ M) (mm (rowR e b cs :: σ) M) w w' → Reg P N ops .seq rest ds ((d, .pointer (some ⟨b, 0, none⟩)) :: L) w' A B X Z) :
    Reg P N ops .seq (⟨some d, .alloc e, ty, pos, af, none⟩ :: rest) ds L w A B X Z :=
  s_al hz hc hN fun b w' hb hx' hlt hW => by
    have hn : ∀ x ∈ (rowR e b cs).fp, w.heap.size ≤ x ∧ x < w'.heap.size := fun x hx => by
      have : x = b := by simpa [rowR] using hx
      omega
    exact h b w' (hI.add hx' hn rfl hW) (hI.addA hx' hn)
/-- A store into a variable. -/
theorem y_st (i : Nat) {e t : TypeId} {x y : Operand} {b o n : Nat} {cs vs : List Value} {v : Value} (hI : Hp w0 Mu M σ w) (hi : σ[i]? = some (rowR e b cs)) (hx : ev L x = some (.pointer (some ⟨b, o, none⟩))) (hy : ev L y = some v) (hv : v.cells = vs.toArray)
    (hz : ∀ w, (sizeOf t).run P w = .ok n w) (hn : vs.length = n) (hl : Nat.ble (o + vs.length) cs.length = true) (h1 : ∀ u ∈ vs, u.oneCell' = true)
    (h : ∀ w', Hp w0 Mu M (σ.set i (rowR e b (setAt cs o vs))) w' → Adv (mm σ M) (mm (σ.set i (rowR e b (setAt cs o vs))) M) w w' → Reg P N ops .seq rest ds L w' A B X Z) :
    Reg P N ops .seq (⟨none, .store t x y, ty, pos, af, none⟩ :: rest) ds L w A B X Z :=
  s_st hx hy hv (hI.row i hi) hz hn hl h1 fun w' hW hk =>
    h w' (hI.upd i hi hk (fun b hb => .inl hb) rfl fun _ _ => hW) (hI.updA (r' := rowR e b (setAt cs o vs)) i hi hk fun b hb => .inl hb)
/-- append to a slice of one's own. -/
theorem y_app (i : Nat) {α : Type} {E : Enc α} {t e bytes : Nat} (T : SlT P t e E.n bytes) {mu : List Nat} {v x : Value} {xs ys : List α} {s y : Operand} (hI : Hp w0 Mu M σ w) (hi : σ[i]? = some (ownR mu E e v xs)) (hs : ev L s = some v) (hy : ev L y = some x)
    (hx : RdS E (mm σ M) w x ys) (hlen : (xs.length + ys.length) * bytes ≤ 140737488355328 ∧ xs.length + ys.length ≤ 140737488355328) (hN : Nat.blt d N = true)
    (h : ∀ v' w', Hp w0 Mu M (σ.set i (ownR mu E e v' (xs ++ ys))) w' → Adv (mm σ M) (mm (σ.set i (ownR mu E e v' (xs ++ ys))) M) w w' → Reg P N ops .seq rest ds ((d, v') :: L) w' A B X Z) :
    Reg P N ops .seq (⟨some d, .call ⟨.builtin .append, #[s, y], #[t, t]⟩, ty, pos, af, none⟩ :: rest) ds L w A B X Z := by
  have hsub := hI.ownSub i hi
  refine s_app T (Bb := 0) (M := mm σ M) hs hy (hI.ownAt i hi) (hx.adv (Adv.drop fun b hb => (List.mem_append.1 hb).elim (hsub b) id)) (Nat.zero_le _) hlen hN fun v' w' ho hk ha hn => ?_
  refine h v' w' (hI.upd i hi hk hn rfl fun M' hM' => ho.mon hM') (hI.updA (r' := ownR mu E e v' (xs ++ ys)) i hi hk hn)
/-- A literal. -/
theorem y_bs {α : Type} {E : Enc α} {t e bytes : Nat} (T : SlT P t e E.n bytes) {parts : List (Nat × Operand)} {vs : List Value} {css : List (List Value)} {xs : List α} {n : Nat} (hI : Hp w0 Mu M σ w)
    (hi : parts.map (·.1) = List.range n) (hvs : evs L (parts.map (·.2)) = some vs) (hc : Cls vs css) (hx : Chs E (mm σ M) w css xs) (hn : Nat.ble (n * E.n) 16777216 = true) (hN : Nat.blt d N = true)
    (h : ∀ v' w', Hp w0 Mu M (ownR [] E e v' xs :: σ) w' → Adv (mm σ M) (mm (ownR [] E e v' xs :: σ) M) w w' → Reg P N ops .seq rest ds ((d, v') :: L) w' A B X Z) :
    Reg P N ops .seq (⟨some d, .buildSlice t n parts.toArray, ty, pos, af, none⟩ :: rest) ds L w A B X Z :=
  s_bs T (Bb := 0) (M := mm σ M) hi hvs hc hx hI.mlt (Nat.zero_le _) hn hN fun v' w' hx' ho hr hnew => by
    have hn' : ∀ b ∈ (ownR [] E e v' xs).fp, w.heap.size ≤ b ∧ b < w'.heap.size := fun b hb => ⟨hnew b hb, (ho.ge b hb).2⟩
    exact h v' w' (hI.add hx' hn' rfl (ho.mon fun b hb => (List.mem_append.1 hb).elim .inl .inr)) (hI.addA hx' hn')
end
end Go.Sx
