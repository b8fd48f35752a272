/-
  What may be known of a value that a drawn region makes: new cells, a list that reads so, a list of one's own.
-/
import Derived.Test.YtecmlmngcnionaaSxSound
import Derived.Test.YtecmlmngcnionaaSxMore
import Derived.Test.YtecmlmngcnionaaSxSea
namespace Go.Sx
open Go Go.RowKit

def KRow (e : TypeId) (B : Nat) (cs : List Value) : PK := .f fun v w => ∃ b, v = .pointer (some ⟨b, 0, none⟩) ∧ B ≤ b ∧ Row e w b cs
theorem KRow.stays {e : TypeId} {B : Nat} {cs : List Value} : (KRow e B cs).stays := fun _ _ _ he ⟨b, h1, h2, h3⟩ => ⟨b, h1, h2, h3.kp he (by simp)⟩
theorem KRow.mk {e : TypeId} {B b : Nat} {cs : List Value} {w : World} (h : Row e w b cs) (hB : B ≤ b) : (KRow e B cs).holds (.pointer (some ⟨b, 0, none⟩)) w := ⟨⟨b, rfl, hB, h⟩, fun x hx => by
  have : x = b := by simpa [blks] using hx
  subst this; exact h.rd.lt⟩
theorem KRow.new {e : TypeId} {B b : Nat} {cs : List Value} {w : World} (h : w.heap.size ≤ b) : (KRow e B cs).newer (.pointer (some ⟨b, 0, none⟩)) w := fun x hx => by
  have : x = b := by simpa [blks] using hx
  subst this; exact h
theorem KRow.out {e : TypeId} {B : Nat} {cs : List Value} {w : World} {v : Value} (h : (KRow e B cs).holds v w) : ∃ b, v = .pointer (some ⟨b, 0, none⟩) ∧ B ≤ b ∧ Row e w b cs ∧ b < w.heap.size := by
  obtain ⟨⟨b, h1, h2, h3⟩, _⟩ := h
  exact ⟨b, h1, h2, h3, h3.rd.lt⟩
theorem KRow.ne {e : TypeId} {B b b' : Nat} {cs : List Value} {seen : List Value} (h : sepF (KRow e B cs) seen (.pointer (some ⟨b, 0, none⟩))) (hm : Value.pointer (some ⟨b', 0, none⟩) ∈ seen) : b ≠ b' := fun he => by
  subst he
  exact (h _ hm).1 b (by simp [blks]) (by simp [blks])
def KRd {α : Type} (E : Enc α) (M : List Nat) (xs : List α) : PK := .p fun v w => RdS E M w v xs
theorem KRd.stays {α : Type} {E : Enc α} {M : List Nat} {xs : List α} : (KRd E M xs).stays := fun _ _ _ he h => h.adv (Adv.of_ext he)

theorem Adv.also {M M' : List Nat} {w w' : World} {b : Nat} (h : Adv M M' w w') (hb : w.heap.size ≤ b) : Adv M (b :: M') w w' := ⟨h.1, fun x hx => by
  rcases List.mem_cons.1 hx with rfl | hx
  · exact .inr hb
  · exact h.2 x hx⟩
theorem nin_cons {M : List Nat} {b c : Nat} (h1 : b ≠ c) (h2 : b ∉ M) : b ∉ c :: M := fun h => (List.mem_cons.1 h).elim h1 h2
theorem MLt.nin {M : List Nat} {w : World} {b : Nat} (h : MLt M w) (hb : w.heap.size ≤ b) : b ∉ M := fun hm => absurd (h b hm) (by omega)
theorem CallsV.ofL {P : Program} {w : World} {g : Nat} {caps args all : List Value} {R : Ending → World → Prop} (h2 : ∀ args w, (callFunc g args).run P w = .ok (.enter g args) w) (he : args ++ caps = all) (h3 : Calls P g all.toArray w R) : CallsV P (.func (.func g) #[] caps.toArray) args w R := by
  subst he
  exact CallsV.of h2 (by simpa using h3)
section
variable {P : Program} {N : Nat} {ops : Array Oper} {q : Md} {rest : List Oper} {ds : List Deferred} {L : Env} {w : World} {A B : Out} {X : Nat → Out} {Z : List PanicEntry → Out} {d : Nat} {ty : TypeId} {pos : String} {af : Array Edge}
/-- A slice held against nil. -/
theorem s_eqN {α : Type} {E : Enc α} {M : List Nat} {w0 : World} {xs : List α} {t t' e : TypeId} {x y : Operand} {v : Value} (hv : RdS E M w0 v xs) (hx : ev L x = some v) (hy : ev L y = some (.slice none 0 0)) (ht : P.underlying t = some (.slice e)) (hN : Nat.blt d N = true)
    (h : ∀ b : Bool, (b = true → xs = []) → Reg P N ops q rest ds ((d, .bool b) :: L) w A B X Z) : Reg P N ops q (⟨some d, .binOp .eql t x y t', ty, pos, af, none⟩ :: rest) ds L w A B X Z := by
  obtain ⟨a, c, rfl, _, _, h3⟩ := hv
  refine Reg.val (.bool a.isNone) rfl rfl hN (fun a' ha w' _ => ?_) (h _ fun hb => ?_)
  · have he : (Op.equal t (.slice a xs.length c) (.slice none 0 0)).run P w' = .ok a.isNone w' := by
      have key : ∀ n, (Op.equalIn (n + 1) t (.slice a xs.length c) (.slice none 0 0)).run P w' = .ok a.isNone w' := fun n => by cases a <;> simp [Op.equalIn, run_underlying ht]
      exact key 9999
    have hg : eqGuard .eql t x y (.slice a xs.length c) (.slice none 0 0) = pure () := by rfl
    simp [execOp, ha.eval hx, ha.eval hy, hg, binOp, he]
  · rcases h3 with rfl | ⟨b, o, rfl, _⟩
    · rfl
    · cases hb
end
/-- An empty literal. -/
def KLit (v : Value) : Prop := ∃ a, v = .slice a 0 0
section
variable {P : Program} {N : Nat} {ops : Array Oper} {rest : List Oper} {ds : List Deferred} {L : Env} {w : World} {A B : Out} {X : Nat → Out} {Z : List PanicEntry → Out}
/-- What is known may be forgotten at the end. -/
theorem Reg.nilS {L0 : Env} (hs : Sub L0 L) (h : A ds L0 w) : Reg P N ops .seq [] ds L w A B X Z := fun _ ha => wpList_nil ⟨ds, L0, ha.sub hs, h⟩
end
theorem Own.klit {α : Type} {E : Enc α} {e : TypeId} {Bb : Nat} {M : List Nat} {w : World} {v : Value} (h : KLit v) : Own E e Bb M w v [] := by
  obtain ⟨a, rfl⟩ := h; exact Own.lit0 _ _ _ _ _ _
theorem Own.isLit {α : Type} {E : Enc α} {e : TypeId} {Bb : Nat} {M : List Nat} {w : World} {v : Value} (h : Own E e Bb M w v []) (hn : ob v = []) : KLit v := by
  rcases h with ⟨a, rfl, _⟩ | ⟨g, cap, cur, rfl, _⟩
  · exact ⟨a, rfl⟩
  · simp [ob] at hn
theorem RdS.cast {α : Type} {E : Enc α} {M : List Nat} {w : World} {v : Value} {xs ys : List α} (h : RdS E M w v xs) (e : xs = ys) : RdS E M w v ys := e ▸ h
theorem Own.cast {α : Type} {E : Enc α} {t : TypeId} {B : Nat} {M : List Nat} {w : World} {v : Value} {xs ys : List α} (h : Own E t B M w v xs) (e : xs = ys) : Own E t B M w v ys := e ▸ h
theorem ret2 {a b a' b' : Value} (h1 : a = a') (h2 : b = b') : Ending.returned (.tuple [a, b].toArray) = Ending.returned (.tuple [a', b'].toArray) := by rw [h1, h2]
theorem ret3 {a b c a' b' c' : Value} (h1 : a = a') (h2 : b = b') (h3 : c = c') : Ending.returned (.tuple [a, b, c].toArray) = Ending.returned (.tuple [a', b', c'].toArray) := by rw [h1, h2, h3]
theorem ret4 {a b c d a' b' c' d' : Value} (h1 : a = a') (h2 : b = b') (h3 : c = c') (h4 : d = d') : Ending.returned (.tuple [a, b, c, d].toArray) = Ending.returned (.tuple [a', b', c', d'].toArray) := by rw [h1, h2, h3, h4]
theorem Cls.nil : Cls [] [] := trivial
theorem Cls.cons {v : Value} {vs : List Value} {c : List Value} {cs : List (List Value)} (h : v.cells = c.toArray) (hr : Cls vs cs) : Cls (v :: vs) (c :: cs) := ⟨h, hr⟩
theorem Chs.nil {α : Type} {E : Enc α} {M : List Nat} {w : World} : Chs E M w [] [] := trivial
theorem Chs.cons {α : Type} {E : Enc α} {M : List Nat} {w : World} {c : List Value} {cs : List (List Value)} {x : α} {xs : List α} (h : E.R M w c x) (hr : Chs E M w cs xs) : Chs E M w (c :: cs) (x :: xs) := ⟨h, hr⟩
end Go.Sx
