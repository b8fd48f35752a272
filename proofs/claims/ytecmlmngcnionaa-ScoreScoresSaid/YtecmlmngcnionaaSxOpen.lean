/-
  An element of a slice of one's own that is open: its cells are known one by one (they may hold slices that are still owned). General: nothing of the program is named here.
-/
import Derived.Test.YtecmlmngcnionaaSxView
namespace Go.Sx
open Go Go.RowKit

def openE {α : Type} (E : Enc α) : Enc (α ⊕ List Value) where
  n := E.n
  pos := E.pos
  R := fun M w cs x => match x with
    | .inl a => E.R M w cs a
    | .inr ds => cs = ds ∧ ds.length = E.n ∧ ∀ u ∈ ds, u.oneCell' = true
  len := fun {M w cs x} h => by
    cases x with
    | inl a => exact E.len h
    | inr ds => obtain ⟨rfl, h, _⟩ := h; exact h
  kp := fun {M w w' cs x} hk h => by
    cases x with
    | inl a => exact E.kp hk h
    | inr ds => exact h
  mon := fun {M M' w cs x} hm h => by
    cases x with
    | inl a => exact E.mon hm h
    | inr ds => exact h
  one := fun {M w cs x} h u hu => by
    cases x with
    | inl a => exact E.one h u hu
    | inr ds => obtain ⟨rfl, _, h⟩ := h; exact h u hu
def opn {α : Type} (xs : List α) (j : Int) (ds : List Value) : List (α ⊕ List Value) := (xs.map Sum.inl).set j.toNat (.inr ds)
theorem opn_len {α : Type} (xs : List α) (j : Int) (ds : List Value) : (opn xs j ds).length = xs.length := by simp [opn]
theorem Chunks.inl {α : Type} {E : Enc α} {M : List Nat} {w : World} : ∀ {cs : List Value} {xs : List α}, Chunks E M w cs xs → Chunks (openE E) M w cs (xs.map Sum.inl)
  | _, [], h => h
  | _, _ :: _, ⟨c, rest, h, hR, hr⟩ => ⟨c, rest, h, hR, Chunks.inl hr⟩
theorem Chunks.outl {α : Type} {E : Enc α} {M : List Nat} {w : World} : ∀ {cs : List Value} {xs : List α}, Chunks (openE E) M w cs (xs.map Sum.inl) → Chunks E M w cs xs
  | _, [], h => h
  | _, _ :: _, ⟨c, rest, h, hR, hr⟩ => ⟨c, rest, h, hR, Chunks.outl hr⟩
theorem Chunks.shut {α : Type} {E : Enc α} {M : List Nat} {w : World} {ds : List Value} {z : α} (hz : E.R M w ds z) : ∀ {cs : List Value} {xs : List α} (j : Nat), Chunks (openE E) M w cs ((xs.map Sum.inl).set j (.inr ds)) → Chunks E M w cs (xs.set j z)
  | _, [], _, h => h
  | _, x :: xs, 0, ⟨c, rest, h, hR, hr⟩ => by
    obtain ⟨rfl, _, _⟩ := hR
    exact ⟨_, rest, h, hz, Chunks.outl hr⟩
  | _, x :: xs, j + 1, ⟨c, rest, h, hR, hr⟩ => ⟨c, rest, h, hR, Chunks.shut hz j hr⟩
theorem Own.opens {α : Type} {E : Enc α} {e Bb : Nat} {M : List Nat} {w : World} {v : Value} {xs : List α} (h : Own E e Bb M w v xs) : Own (openE E) e Bb M w v (xs.map Sum.inl) := by
  rcases h with ⟨a, rfl, rfl⟩ | ⟨g, cap, cur, rfl, h1, h2, h3, h4, h5, h6⟩
  · exact Or.inl ⟨a, rfl, rfl⟩
  · exact Or.inr ⟨g, cap, cur, by simp, h1, h2, by simpa using h3, h4, h5, by rw [List.length_map]; exact Chunks.inl h6⟩
theorem Own.shut {α : Type} {E : Enc α} {e Bb : Nat} {M : List Nat} {w : World} {v : Value} {xs : List α} {j : Int} {ds : List Value} {z : α} (hz : E.R (ob v ++ M) w ds z) (h : Own (openE E) e Bb M w v (opn xs j ds)) : Own E e Bb M w v (xs.set j.toNat z) := by
  rcases h with ⟨a, rfl, hx⟩ | ⟨g, cap, cur, rfl, h1, h2, h3, h4, h5, h6⟩
  · refine .inl ⟨a, rfl, ?_⟩
    have := congrArg List.length hx
    rw [opn_len] at this
    have hx0 : xs = [] := List.eq_nil_of_length_eq_zero (by simpa using this)
    subst hx0; rfl
  · rw [opn_len] at h3 h6
    refine .inr ⟨g, cap, cur, by rw [opn_len, List.length_set], h1, h2, by rw [List.length_set]; exact h3, h4, h5, ?_⟩
    rw [List.length_set]
    exact Chunks.shut hz _ h6
theorem setAt_one : ∀ (cs : List Value) (o : Nat) (vs : List Value), (∀ u ∈ cs, u.oneCell' = true) → (∀ u ∈ vs, u.oneCell' = true) → ∀ u ∈ setAt cs o vs, u.oneCell' = true
  | cs, o, [], h, _ => by cases cs <;> exact h
  | [], _, _ :: _, _, _ => fun u hu => by cases hu
  | c :: r, 0, v :: vs, h, hv => fun u hu => by
    rcases List.mem_cons.1 hu with rfl | hu
    · exact hv _ (by simp)
    · exact setAt_one r 0 vs (fun u hu => h u (List.mem_cons_of_mem _ hu)) (fun u hu => hv u (List.mem_cons_of_mem _ hu)) u hu
  | c :: r, n + 1, v :: vs, h, hv => fun u hu => by
    rcases List.mem_cons.1 hu with rfl | hu
    · exact h _ (by simp)
    · exact setAt_one r n (v :: vs) (fun u hu => h u (List.mem_cons_of_mem _ hu)) hv u hu
theorem set_set {σ : List Res} {i : Nat} {r r' : Res} : (σ.set i r).set i r' = σ.set i r' := List.set_set ..

section
variable {P : Program} {N : Nat} {ops : Array Oper} {q : Md} {rest : List Oper} {ds : List Deferred} {L : Env} {w w0 : World} {A B : Out} {X : Nat → Out} {Z : List PanicEntry → Out} {d : Nat} {ty : TypeId} {pos : String} {af : Array Edge} {Mu M : List Nat} {σ : List Res}
/-- A store into an element, which is open from now on. -/
theorem y_stOpen (i : Nat) {α : Type} {E : Enc α} {e t : TypeId} {x y : Operand} {v u : Value} {xs : List α} {j : Int} {g o n : Nat} {cs vs : List Value} {z : α} (hI : Hp w0 Mu M σ w) (hi : σ[i]? = some (ownR [] E e v xs))
    (hx : ev L x = some (.pointer (some ⟨g, j.toNat * E.n + o, none⟩))) (hy : ev L y = some u) (hu : u.cells = vs.toArray) (hg : ob v = [g]) (hz : ixo xs j = some z) (hR : E.R (mm σ M) w cs z) (hC : Cells w g (j.toNat * E.n) cs)
    (hl : Nat.ble (o + vs.length) cs.length = true) (hsz : ∀ w, (sizeOf t).run P w = .ok n w) (hn : vs.length = n) (h1 : ∀ u ∈ vs, u.oneCell' = true)
    (h : ∀ w', Hp w0 Mu M (σ.set i (ownR [] (openE E) e v (opn xs j (setAt cs o vs)))) w' → Adv (mm σ M) (mm (σ.set i (ownR [] (openE E) e v (opn xs j (setAt cs o vs)))) M) w w' → Reg P N ops .seq rest ds L w' A B X Z) :
    Reg P N ops .seq (⟨none, .store t x y, ty, pos, af, none⟩ :: rest) ds L w A B X Z := by
  obtain ⟨h0, hj, hzz⟩ := ixo_out hz
  have hil : i < σ.length := by
    rcases Nat.lt_or_ge i σ.length with h1 | h1
    · exact h1
    · rw [List.getElem?_eq_none h1] at hi; cases hi
  have hI1 : Hp w0 Mu M (σ.set i (ownR [] (openE E) e v (xs.map Sum.inl))) w := hI.upd i hi (Kp.refl _ _) (fun b hb => .inl hb) rfl fun M' hM' => ((hI.ownAt i hi).opens).mon hM'
  have hA1 : Adv (mm σ M) (mm (σ.set i (ownR [] (openE E) e v (xs.map Sum.inl))) M) w w := hI.updA (r' := ownR [] (openE E) e v (xs.map Sum.inl)) i hi (Kp.refl _ _) fun b hb => .inl hb
  refine y_sto i (E := openE E) (xs := xs.map Sum.inl) (l := opn xs j (setAt cs o vs)) (z := .inl z) (z' := .inr (setAt cs o vs)) (cs := cs) (mu := []) (e := e) hI1 (by simp [hil]) hx hy hu hg ?_ (E.adv hR hA1) hC ?_ hl hsz hn h1 fun w' hI2 hA2 => ?_
  · simp [seto, opn, h0, hj]
  · exact ⟨rfl, by rw [setAt_len]; exact E.len hR, setAt_one _ _ _ (E.one hR) h1⟩
  · rw [set_set] at hI2 hA2
    exact h w' hI2 (hA1.trans hA2)
/-- The address of the open element. -/
theorem y_iaOpen (i : Nat) {α : Type} {E : Enc α} {e' t e : TypeId} {x y : Operand} {v : Value} {xs : List α} {k : IntKind} {j : Int} {z : α} {cs : List Value} (hI : Hp w0 Mu M σ w) (hi : σ[i]? = some (ownR [] (openE E) e' v (opn xs j cs)))
    (hx : ev L x = some v) (hy : ev L y = some (.int k j)) (hz : ixo xs j = some z) (ht : P.underlying t = some (.slice e)) (hs : ∀ w, (sizeOf e).run P w = .ok E.n w) (hN : Nat.blt d N = true)
    (h : ∀ g, ob v = [g] → Cells w g (j.toNat * E.n) cs → Reg P N ops q rest ds ((d, .pointer (some ⟨g, j.toNat * E.n, none⟩)) :: L) w A B X Z) :
    Reg P N ops q (⟨some d, .indexAddr t x y, ty, pos, af, none⟩ :: rest) ds L w A B X Z := by
  obtain ⟨h0, hj, hzz⟩ := ixo_out hz
  refine y_ia i (E := openE E) (z := .inr cs) hI hi hx hy ?_ ht hs hN fun g cs' hg hR hC => ?_
  · have hjn : j.toNat < xs.length := by omega
    exact ixo_some h0 (by simp [opn, hjn])
  · obtain ⟨rfl, _⟩ := hR
    exact h g hg hC
theorem Hp.shut (h : Hp w0 Mu M σ w) (i : Nat) {α : Type} {E : Enc α} {e : TypeId} {v : Value} {xs : List α} {j : Int} {cs : List Value} {z : α} (hi : σ[i]? = some (ownR [] (openE E) e v (opn xs j cs))) (hR : E.R (mm σ M) w cs z) : Hp w0 Mu M (σ.set i (ownR [] E e v (xs.set j.toNat z))) w :=
  h.upd i hi (Kp.refl _ _) (fun b hb => .inl hb) rfl fun M' hM' => ((h.ownAt i hi).shut (E.mon (fun b hb => .inl ((List.mem_append.1 hb).elim (h.ownSub i hi b) id)) hR)).mon hM'
theorem Hp.shutA (h : Hp w0 Mu M σ w) (i : Nat) {α : Type} {E : Enc α} {e : TypeId} {v : Value} {xs : List α} {j : Int} {cs : List Value} {z : α} (hi : σ[i]? = some (ownR [] (openE E) e v (opn xs j cs))) : Adv (mm σ M) (mm (σ.set i (ownR [] E e v (xs.set j.toNat z))) M) w w :=
  h.updA (r' := ownR [] E e v (xs.set j.toNat z)) i hi (Kp.refl _ _) fun b hb => .inl hb
theorem y_lenOpen (i : Nat) {α : Type} {E : Enc α} {e' t e : TypeId} {x : Operand} {v : Value} {xs : List α} {j : Int} {cs : List Value} (hI : Hp w0 Mu M σ w) (hi : σ[i]? = some (ownR [] (openE E) e' v (opn xs j cs))) (hx : ev L x = some v) (ht : P.underlying t = some (.slice e)) (hN : Nat.blt d N = true)
    (h : Reg P N ops q rest ds ((d, .int .i64 xs.length) :: L) w A B X Z) : Reg P N ops q (⟨some d, .call ⟨.builtin .len, #[x], #[t]⟩, ty, pos, af, none⟩ :: rest) ds L w A B X Z := by
  rw [← opn_len xs j cs] at h
  exact s_lenO hx (hI.ownAt i hi) ht hN h
end
end Go.Sx
