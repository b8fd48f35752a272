/-
  Loops of the plain side, by what they go through. General: nothing of the program is named here.
-/
import Derived.Test.YtecmlmngcnionaaSxPure
namespace Go.Sx
open Go Go.RowKit

theorem loop_seq {S R : Type} {body : S → Option (S ⊕ R)} (r : R) : ∀ (n : Nat) (G : Nat → S), (∀ i < n, body (G i) = some (.inl (G (i + 1)))) → body (G n) = some (.inr r) → loopM body (G 0) = some r
  | 0, G, _, he => loopM_end he
  | n + 1, G, hb, he => by
    rw [loopM_go (hb 0 (by omega))]
    exact loop_seq r n (fun i => G (i + 1)) (fun i hi => hb (i + 1) (by omega)) he
/- The same as the library's, but not by definition: else the kernel unfolds what numbers have to fit. -/
theorem condF {α : Type} (a b : α) : cond false a b = b := (fun (h : cond false a b = b) => h) (by cases a_eq : (0 : Nat) <;> rfl)
theorem condT {α : Type} (a b : α) : cond true a b = a := (fun (h : cond true a b = a) => h) (by cases a_eq : (0 : Nat) <;> rfl)
theorem bindS {α β : Type} (a : α) (f : α → Option β) : Option.bind (some a) f = f a := (fun (h : Option.bind (some a) f = f a) => h) (by cases a_eq : (0 : Nat) <;> rfl)
theorem elimLS {α β γ : Type} (f : α → γ) (g : β → γ) (a : α) : Sum.elim f g (.inl a) = f a := (fun (h : Sum.elim f g (.inl a) = f a) => h) (by cases a_eq : (0 : Nat) <;> rfl)
theorem elimRS {α β γ : Type} (f : α → γ) (g : β → γ) (b : β) : Sum.elim f g (.inr b) = g b := (fun (h : Sum.elim f g (.inr b) = g b) => h) (by cases a_eq : (0 : Nat) <;> rfl)
theorem notT : (!true) = false := (fun (h : (!true) = false) => h) (by decide)
theorem notF : (!false) = true := (fun (h : (!false) = true) => h) (by decide)
theorem ixo_at {α : Type} {l : List α} {i : Nat} {y : α} (h : l[i]? = some y) : ixo l (i : Int) = some y := by rw [ixo_nat]; exact h
theorem chk_nat {i : Nat} (h : i < 9223372036854775807) : chk .i64 ((i : Int) + 1) = some ((i : Int) + 1) := chk_i64 (by omega)
theorem lt_cast {i n : Nat} (h : i < n) : decide ((i : Int) < (n : Int)) = true := by simpa using h
theorem not_lt_cast {n : Nat} : decide ((n : Int) < (n : Int)) = false := by simp
theorem get_lt {α : Type} {l : List α} {j : Nat} {y : α} (h : l[j]? = some y) : j < l.length := by
  rcases Nat.lt_or_ge j l.length with h1 | h1
  · exact h1
  · rw [List.getElem?_eq_none h1] at h; cases h
/-- For each element of a list in turn: it may end the loop. -/
theorem loop_find {S α R : Type} {body : S → Option (S ⊕ R)} (l : List α) (G : Nat → S) (f : Nat → α → Option R) (r0 : R)
    (hb : ∀ i y, l[i]? = some y → body (G i) = some (match f i y with | some r => .inr r | none => .inl (G (i + 1)))) (he : body (G l.length) = some (.inr r0)) :
    loopM body (G 0) = some ((l.zipIdx.findSome? fun p => f p.2 p.1).getD r0) := by
  have key : ∀ (n : Nat) (k : Nat), k + n = l.length → loopM body (G k) = some ((((l.drop k).zipIdx k).findSome? fun p => f p.2 p.1).getD r0) := by
    intro n
    induction n with
    | zero =>
      intro k hk
      have : k = l.length := by omega
      subst this
      rw [loopM_end he]; simp
    | succ n ih =>
      intro k hk
      have hlt : k < l.length := by omega
      have hy := List.getElem?_eq_getElem hlt
      have hd : l.drop k = l[k] :: l.drop (k + 1) := List.drop_eq_getElem_cons hlt
      have h1 := hb k _ hy
      rw [hd, List.zipIdx_cons, List.findSome?_cons]
      cases hf : f k l[k] with
      | some r => rw [hf] at h1; rw [loopM_end h1]; simp
      | none => rw [hf] at h1; rw [loopM_go h1, ih (k + 1) (by omega)]
  have := key l.length 0 (by omega)
  simpa using this
theorem findSome_any {α R : Type} (bad : α → Nat → Bool) (r r0 : R) : ∀ (l : List α) (k : Nat), (((l.zipIdx k).findSome? fun p => if bad p.1 p.2 then some r else none).getD r0) = if (l.zipIdx k).any (fun p => bad p.1 p.2) then r else r0
  | [], _ => by simp
  | a :: l, k => by
    rw [List.zipIdx_cons, List.findSome?_cons, List.any_cons]
    cases h : bad a k with
    | true => simp
    | false =>
      rw [Bool.false_or]
      simp only [Bool.false_eq_true, if_false]
      exact findSome_any bad r r0 l (k + 1)
theorem zip_any {α : Type} (p : α → Bool) : ∀ (l : List α) (k : Nat), (l.zipIdx k).any (fun q => p q.1) = l.any p
  | [], _ => by simp
  | a :: l, k => by rw [List.zipIdx_cons, List.any_cons, List.any_cons, zip_any p l (k + 1)]
/-- A loop that ends early at the first bad element. -/
theorem loop_any {α R : Type} {body : Int → Option (Int ⊕ R)} (l : List α) (bad : α → Nat → Bool) (r r0 : R)
    (hb : ∀ (i : Nat) y, l[i]? = some y → body i = some (bif bad y i then .inr r else .inl ((i : Int) + 1))) (he : body l.length = some (.inr r0)) :
    loopM body 0 = some (bif l.zipIdx.any (fun p => bad p.1 p.2) then r else r0) := by
  have := loop_find l (fun i => (i : Int)) (fun i y => if bad y i then some r else none) r0 (fun i y hy => by
    rw [hb i y hy]
    cases bad y i <;> simp) he
  rw [findSome_any] at this
  rw [Bool.cond_eq_ite]
  exact this
theorem loop_any0 {α R : Type} {body : Int → Option (Int ⊕ R)} (l : List α) (bad : α → Bool) (r r0 : R)
    (hb : ∀ (i : Nat) y, l[i]? = some y → body i = some (bif bad y then .inr r else .inl ((i : Int) + 1))) (he : body l.length = some (.inr r0)) :
    loopM body 0 = some (bif l.any bad then r else r0) := by
  have := loop_any l (fun y _ => bad y) r r0 hb he
  rwa [zip_any] at this
/-- A loop over a list that gathers: F i is what is gathered of the first i. -/
theorem loop_fold {A R : Type} {body : A × Int → Option (A × Int ⊕ R)} (n : Nat) (F : Nat → A) (r : R)
    (hb : ∀ i < n, body (F i, (i : Int)) = some (.inl (F (i + 1), (i : Int) + 1))) (he : body (F n, (n : Int)) = some (.inr r)) : loopM body (F 0, 0) = some r :=
  loop_seq r n (fun i => (F i, (i : Int))) (fun i hi => by rw [hb i hi]; rfl) he
theorem loop_fold' {A R : Type} {body : Int × A → Option (Int × A ⊕ R)} (n : Nat) (F : Nat → A) (r : R)
    (hb : ∀ i < n, body ((i : Int), F i) = some (.inl ((i : Int) + 1, F (i + 1)))) (he : body ((n : Int), F n) = some (.inr r)) : loopM body (0, F 0) = some r :=
  loop_seq r n (fun i => ((i : Int), F i)) (fun i hi => by rw [hb i hi]; rfl) he
theorem appo_ok {α : Type} {b : Nat} {xs ys : List α} (h : (xs.length + ys.length) * b ≤ 140737488355328) (h2 : xs.length + ys.length ≤ 140737488355328) : appo b xs ys = some (xs ++ ys) := if_pos ⟨h, h2⟩
end Go.Sx
