/-
  More of what the score's functions reckon.
-/
import Derived.Test.YtecmlmngcnionaaSpecScore
namespace Go.Proofs.Ytecmlmngcnionaa
namespace S
theorem eqto {α : Type} {l r : List α} {i : Nat} {x y : α} (h : ∀ j < i, l[j]? = r[j]?) (hx : l[i]? = some x) (hy : r[i]? = some y) (e : x = y) : ∀ j < i + 1, l[j]? = r[j]? := fun j hj => by
  rcases Nat.lt_or_ge j i with h1 | h1
  · exact h j h1
  · have : j = i := by omega
    subst this; rw [hx, hy, e]
theorem eqto_all {α : Type} {l r : List α} {i : Nat} (h : ∀ j < i, l[j]? = r[j]?) (h1 : l.length ≤ i) (h2 : l.length = r.length) : l = r := by
  apply List.ext_getElem?
  intro j
  rcases Nat.lt_or_ge j i with h3 | h3
  · exact h j h3
  · rw [List.getElem?_eq_none (by omega), List.getElem?_eq_none (by omega)]
/-- The place of the first element of which p is true; -1 if there is none. -/
def idx {α : Type} (p : α → Bool) (l : List α) : Int := match l.findIdx? p with | some i => (i : Int) | none => -1
theorem idx_found {α : Type} {p : α → Bool} {l : List α} {i : Nat} {y : α} (h : ∀ j < i, ∀ y, l[j]? = some y → p y = false) (hy : l[i]? = some y) (hp : p y = true) : (i : Int) = idx p l := by
  have hi := lt_of_get hy
  have : l.findIdx? p = some i := by
    rw [List.findIdx?_eq_some_iff_getElem]
    refine ⟨hi, ?_, fun j hj => ?_⟩
    · rw [List.getElem?_eq_getElem hi] at hy; cases hy; exact hp
    · have := h j hj _ (List.getElem?_eq_getElem (by omega)); simp [this]
  simp [idx, this]
theorem idx_none {α : Type} {p : α → Bool} {l : List α} (h : ∀ (j : Nat) (y : α), l[j]? = some y → p y = false) : -1 = idx p l := by
  have : l.findIdx? p = none := by
    rw [List.findIdx?_eq_none_iff]
    intro x hx
    obtain ⟨j, hj⟩ := List.getElem?_of_mem hx
    exact h j x hj
  simp [idx, this]
theorem idx_ge {α : Type} {p : α → Bool} {l : List α} : decide (idx p l ≥ 0) = l.any p := by
  cases hf : l.findIdx? p with
  | none =>
    have := List.findIdx?_eq_none_iff.1 hf
    have h2 : l.any p = false := by rw [List.any_eq_false]; intro x hx; simp [this x hx]
    simp [idx, hf, h2]
  | some i =>
    have := (List.findIdx?_eq_some_iff_getElem.1 hf)
    obtain ⟨h1, h2, _⟩ := this
    have h3 : l.any p = true := List.any_eq_true.2 ⟨_, List.getElem_mem h1, h2⟩
    simp [idx, hf, h3]
def sorted : List Int → Bool
  | a :: b :: r => decide (a ≤ b) && sorted (b :: r)
  | _ => true
theorem sorted_iff : ∀ l : List Int, sorted l = true ↔ ∀ (j : Nat) (c d : Int), l[j]? = some c → l[j + 1]? = some d → c ≤ d
  | [] => by simp [sorted]
  | [a] => by simp [sorted]
  | a :: b :: r => by
    simp only [sorted, Bool.and_eq_true, decide_eq_true_eq, sorted_iff (b :: r)]
    constructor
    · rintro ⟨h1, h2⟩ j c d hc hd
      cases j with
      | zero => simp at hc hd; omega
      | succ j => exact h2 j c d (by simpa using hc) (by simpa using hd)
    · intro h
      exact ⟨h 0 a b rfl rfl, fun j c d hc hd => h (j + 1) c d (by simpa using hc) (by simpa using hd)⟩
theorem sorted_step {x : List Int} {k : Int} {a b : Int} (h : ∀ j : Nat, k ≤ (j : Int) → ∀ c d, x[j]? = some c → x[j + 1]? = some d → c ≤ d) (hk : 0 < k) (ha : x[k.toNat]? = some a) (hb : x[(k - 1).toNat]? = some b) (hab : ¬ a < b) :
    ∀ j : Nat, k - 1 ≤ (j : Int) → ∀ c d, x[j]? = some c → x[j + 1]? = some d → c ≤ d := fun j hj c d hc hd => by
  by_cases h1 : k ≤ (j : Int)
  · exact h j h1 c d hc hd
  · have e1 : (k - 1).toNat = j := by omega
    have e2 : k.toNat = j + 1 := by omega
    rw [e1, hc] at hb; rw [e2, hd] at ha
    cases hb; cases ha; omega
theorem sorted_not {x : List Int} {k : Int} {a b : Int} (ha : x[k.toNat]? = some a) (hb : x[(k - 1).toNat]? = some b) (hk : 0 < k) (hab : a < b) : sorted x = false := by
  cases hs : sorted x with
  | false => rfl
  | true =>
    have e2 : k.toNat = (k - 1).toNat + 1 := by omega
    have := (sorted_iff x).1 hs (k - 1).toNat b a hb (by rw [← e2]; exact ha)
    omega
theorem sorted_all {x : List Int} (h : ∀ (j : Nat), ∀ c d, x[j]? = some c → x[j + 1]? = some d → c ≤ d) : sorted x = true := (sorted_iff x).2 h
end S
end Go.Proofs.Ytecmlmngcnionaa
