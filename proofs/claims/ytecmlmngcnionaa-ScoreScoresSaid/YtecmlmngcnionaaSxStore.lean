/-
  Elements of a slice of one's own: where they lie, and writing one.
-/
import Derived.Test.YtecmlmngcnionaaSxKinds
namespace Go.Sx
open Go Go.RowKit

/-- One element set, of whatever size. -/
theorem Chunks.setN {α : Type} {E : Enc α} {M : List Nat} {w : World} {c' : List Value} {y : α} (hy : E.R M w c' y) : ∀ {cs : List Value} {xs : List α}, Chunks E M w cs xs → ∀ i, i < xs.length → Chunks E M w (cs.take (i * E.n) ++ c' ++ cs.drop (i * E.n + E.n)) (xs.set i y)
  | cs, [], _, i, hi => by simp at hi
  | cs, x :: r, ⟨c, rest, h, hR, hr⟩, 0, _ => by
    have hl := E.len hR
    subst h
    refine ⟨c', rest, ?_, hy, hr⟩
    simp [← hl]
  | cs, x :: r, ⟨c, rest, h, hR, hr⟩, i + 1, hi => by
    have hl := E.len hR
    subst h
    have ih := Chunks.setN hy hr i (by simpa using hi)
    refine ⟨c, _, ?_, hR, ih⟩
    have e1 : (i + 1) * E.n = c.length + i * E.n := by rw [Nat.add_mul, Nat.one_mul, hl]; omega
    rw [e1]
    simp [List.take_append, List.drop_append, Nat.add_assoc, List.drop_eq_nil_of_le, List.take_of_length_le]
/-- Where an owned slice's cells lie. -/
theorem Own.at_ {α : Type} {E : Enc α} {e : TypeId} {Bb : Nat} {M : List Nat} {w : World} {v : Value} {xs : List α} (h : Own E e Bb M w v xs) (hx : 0 < xs.length) : ∃ g cap cur, v = .slice (some ⟨g, 0, none⟩) xs.length (cap + 1) ∧ ob v = [g] ∧ Bb ≤ g ∧ w.heap[g]? = some (.cells cur e (0, 0)) ∧ xs.length ≤ cap + 1 ∧ cap + 1 ≤ maxLen ∧ cur.size = (cap + 1) * E.n ∧ Chunks E (g :: M) w (cur.toList.take (xs.length * E.n)) xs := by
  rcases h with ⟨a, rfl, rfl⟩ | ⟨g, cap, cur, rfl, h⟩
  · simp at hx
  · exact ⟨g, cap, cur, rfl, rfl, h⟩
section
variable {P : Program} {N : Nat} {ops : Array Oper} {q : Md} {rest : List Oper} {ds : List Deferred} {L : Env} {w : World} {A B : Out} {X : Nat → Out} {Z : List PanicEntry → Out} {d : Nat} {ty : TypeId} {pos : String} {af : Array Edge}
/-- The address of an element of a slice of one's own. -/
theorem s_iaO {α : Type} {E : Enc α} {e' Bb : Nat} {M : List Nat} {w0 : World} {t e : TypeId} {x y : Operand} {v : Value} {xs : List α} {k : IntKind} {i : Int}
    (hx : ev L x = some v) (hy : ev L y = some (.int k i)) (hv : Own E e' Bb M w0 v xs) (hi : 0 ≤ i ∧ i < xs.length) (ht : P.underlying t = some (.slice e)) (hs : ∀ w, (sizeOf e).run P w = .ok E.n w) (hN : Nat.blt d N = true)
    (h : ∀ g, ob v = [g] → Reg P N ops q rest ds ((d, .pointer (some ⟨g, i.toNat * E.n, none⟩)) :: L) w A B X Z) :
    Reg P N ops q (⟨some d, .indexAddr t x y, ty, pos, af, none⟩ :: rest) ds L w A B X Z := by
  obtain ⟨g, cap, cur, rfl, hob, _⟩ := hv.at_ (by omega)
  refine Reg.val (.pointer (some ⟨g, i.toNat * E.n, none⟩)) rfl rfl hN (fun a ha w' _ => ?_) (h g hob)
  simp [execOp, ha.eval hx, ha.eval hy, Instr.indexAt, asIntOf, run_underlying ht, hi.1, hi.2, hs, add_none]
theorem setAt_eq : ∀ (cs : List Value) (o : Nat) (vs : List Value), o + vs.length ≤ cs.length → setAt cs o vs = cs.take o ++ vs ++ cs.drop (o + vs.length)
  | cs, o, [], _ => by cases cs <;> simp [setAt]
  | [], o, v :: vs, h => by simp at h
  | c :: r, 0, v :: vs, h => by
    have := setAt_eq r 0 vs (by simpa using h)
    simp only [setAt, this]
    simp
  | c :: r, n + 1, v :: vs, h => by
    have := setAt_eq r n (v :: vs) (by simp at h ⊢; omega)
    simp only [setAt, this]
    rw [show n + 1 + (v :: vs).length = (n + (v :: vs).length) + 1 by omega]
    simp
/-- An element of a slice of one's own is set. -/
theorem s_stO {α : Type} {E : Enc α} {e t Bb : Nat} {M : List Nat} {x y : Operand} {v u : Value} {xs : List α} {j g : Nat} {vs : List Value} {z : α} (hx : ev L x = some (.pointer (some ⟨g, j * E.n, none⟩))) (hy : ev L y = some u) (hu : u.cells = vs.toArray)
    (ho : Own E e Bb M w v xs) (hg : ob v = [g]) (hj : j < xs.length) (hz : E.R (ob v ++ M) w vs z) (hsz : ∀ w, (sizeOf t).run P w = .ok E.n w)
    (h : ∀ w', Own E e Bb M w' v (xs.set j z) → Kp (ob v) w w' → Reg P N ops .seq rest ds L w' A B X Z) :
    Reg P N ops .seq (⟨none, .store t x y, ty, pos, af, none⟩ :: rest) ds L w A B X Z := by
  obtain ⟨g', cap, cur, rfl, hob, hB, hheap, hle, hmax, hsize, hch⟩ := ho.at_ (by omega)
  rw [hob] at hg
  have hgg : g' = g := by simpa using hg
  subst hgg
  have hlen := E.len hz
  have hroom : j * E.n + E.n ≤ xs.length * E.n := by
    have := Nat.mul_le_mul_right E.n (show j + 1 ≤ xs.length from hj)
    rw [Nat.add_mul, Nat.one_mul] at this; exact this
  have hroom2 : xs.length * E.n ≤ (cap + 1) * E.n := Nat.mul_le_mul_right _ hle
  have hcl : cur.toList.length = (cap + 1) * E.n := by rw [← hsize]; exact Array.length_toList
  have hrow : Row e w g' cur.toList := hheap
  obtain ⟨w', hrun, hw', hk⟩ := run_storeAt (P := P) g' e vs 0 cur.toList w (j * E.n) hrow (by rw [hcl, hlen]; omega) (E.one hz)
  refine Reg.sto w' rfl rfl (fun a ha => ?_) (h w' ?_ (by rw [hob]; exact hk))
  · simp [execOp, ha.eval hx, ha.eval hy, Instr.storeAt, Instr.sureAddr, storeVar, hu, hsz, hrun, hlen]
  · have hadv : Adv (g' :: M) (g' :: M) w w' := ⟨hk.mono fun x hx => .inl (by simp at hx; subst hx; exact List.mem_cons_self ..), fun _ h => .inl h⟩
    rw [hob] at hz
    refine .inr ⟨g', cap, (setAt cur.toList (j * E.n) vs).toArray, by simp, hB, hw', by simpa using hle, hmax, by simp [setAt_len, hcl], ?_⟩
    have he : ((setAt cur.toList (j * E.n) vs).toArray.toList.take ((xs.set j z).length * E.n)) = (cur.toList.take (xs.length * E.n)).take (j * E.n) ++ vs ++ (cur.toList.take (xs.length * E.n)).drop (j * E.n + E.n) := by
      rw [show (setAt cur.toList (j * E.n) vs).toArray.toList = setAt cur.toList (j * E.n) vs from rfl, setAt_eq _ _ _ (by rw [hcl, hlen]; omega), List.length_set, hlen]
      apply List.ext_getElem?
      intro i
      simp only [List.getElem?_take, List.getElem?_append, List.length_append, List.length_take, List.getElem?_drop, hcl, hlen]
      grind
    rw [he]
    exact Chunks.adv hadv (Chunks.setN hz hch j hj)
end
end Go.Sx
