/-
  More of what is owned: results of one's own, results in variables, literals of structs, and small operations. General: nothing of the program is named here.
-/
import Derived.Test.YtecmlmngcnionaaSxInv
namespace Go.Sx
open Go Go.RowKit

theorem quoO_in {k : IntKind} {x y z : Int} (h : quoO k x y = some z) : InK k z := by
  obtain ⟨h0, h1, hr, rfl⟩ := quoO_out h
  have h2 : x / y ≤ x := Int.ediv_le_self _ h0
  have h3 : 0 ≤ x / y := Int.ediv_nonneg h0 (by omega)
  have h4 : k.min ≤ 0 := by cases k <;> simp [IntKind.min, IntKind.signed, IntKind.bits]
  exact ⟨by omega, by have := hr.2; omega⟩
theorem remO_in {k : IntKind} {x y z : Int} (h : remO x y = some z) (hx : InK k x) : InK k z := by
  obtain ⟨h0, h1, rfl⟩ := remO_out h
  have h2 : x % y ≤ x := by
    rcases Int.lt_or_le x y with hl | hl
    · rw [Int.emod_eq_of_lt h0 hl]; exact Int.le_refl _
    · have := Int.emod_lt_of_pos x h1; omega
  have h3 : 0 ≤ x % y := Int.emod_nonneg _ (by omega)
  have h4 : k.min ≤ 0 := by cases k <;> simp [IntKind.min, IntKind.signed, IntKind.bits]
  exact ⟨by omega, by have := hx.2; omega⟩
theorem InK.imin {k : IntKind} {x y : Int} (hx : InK k x) (hy : InK k y) : InK k (min x y) := by
  unfold InK at *; omega
theorem InK.imax {k : IntKind} {x y : Int} (hx : InK k x) (hy : InK k y) : InK k (max x y) := by
  unfold InK at *; omega
theorem Calls.fact {P : Program} {f : FuncId} {args : Array Value} {w : World} {R : Ending → World → Prop} {Q : Prop} (h : Calls P f args w R) (hq : ∀ e w', R e w' → Q) : Q := by
  obtain ⟨e, w', fr, r, rest⟩ := h []
  exact hq e w' r
theorem Own.oneC {α : Type} {E : Enc α} {e : TypeId} {Bb : Nat} {M : List Nat} {w : World} {v : Value} {xs : List α} (h : Own E e Bb M w v xs) : v.oneCell' = true := by
  obtain ⟨a, c, rfl, _⟩ := h.shape; rfl
theorem Own.cells1 {α : Type} {E : Enc α} {e : TypeId} {Bb : Nat} {M : List Nat} {w : World} {v : Value} {xs : List α} (h : Own E e Bb M w v xs) : v.cells = [v].toArray := by
  obtain ⟨a, c, rfl, _⟩ := h.shape; rfl

section
variable {w0 w w' : World} {Mu M : List Nat} {σ : List Res}
theorem Hp.baseA : Adv (mm σ M) M w w := Adv.drop fun _ hb => mem_mm.2 (.inr hb)
theorem Hp.ownOut (h : Hp w0 Mu M σ w) (i : Nat) {α : Type} {E : Enc α} {e : TypeId} {v : Value} {xs : List α} (hi : σ[i]? = some (ownR [] E e v xs)) : Own E e 0 M w v xs ∧ ∀ b ∈ ob v, w0.heap.size ≤ b :=
  ⟨(h.ownAt i hi).mon fun _ hb => .inr (mem_mm.2 (.inr hb)), fun b hb => ((h.own _ (List.mem_of_getElem? hi)).2 b hb).elim (fun h => by cases h) id⟩
theorem Hp.outA (i : Nat) {α : Type} {mu : List Nat} {E : Enc α} {e : TypeId} {v : Value} {xs : List α} (hi : σ[i]? = some (ownR mu E e v xs)) : Adv (mm σ M) (ob v ++ M) w w := Adv.drop fun b hb => mem_mm.2 ((List.mem_append.1 hb).elim (fun h => .inl ⟨_, List.mem_of_getElem? hi, h⟩) .inr)
theorem Hp.addOwn (h : Hp w0 Mu M σ w) (e : Ext w w') {α : Type} {E : Enc α} {t : TypeId} {v : Value} {xs : List α} (ho : Own E t 0 (mm σ M) w' v xs ∧ ∀ b ∈ ob v, w.heap.size ≤ b) : Hp w0 Mu M (ownR [] E t v xs :: σ) w' :=
  h.add e (fun b hb => ⟨ho.2 b hb, (ho.1.ge b hb).2⟩) rfl (ho.1.mon fun _ hb => (List.mem_append.1 hb).elim .inl .inr)
theorem Hp.addOwnA (h : Hp w0 Mu M σ w) (e : Ext w w') {α : Type} {E : Enc α} {t : TypeId} {v : Value} {xs : List α} (ho : Own E t 0 (mm σ M) w' v xs ∧ ∀ b ∈ ob v, w.heap.size ≤ b) : Adv (mm σ M) (mm (ownR [] E t v xs :: σ) M) w w' :=
  h.addA e fun b hb => ⟨ho.2 b hb, (ho.1.ge b hb).2⟩
/-- An empty literal. -/
theorem Hp.addLit (h : Hp w0 Mu M σ w) {α : Type} (E : Enc α) (t : TypeId) {v : Value} (k : KLit v) : Hp w0 Mu M (ownR [] E t v [] :: σ) w := by
  obtain ⟨a, rfl⟩ := k
  exact h.add (Kp.refl _ _) (fun b hb => by simp only [ownR, ob_lit0] at hb; cases hb) rfl (Own.lit0 _ _ _ _ _ _)
theorem Hp.addLitA {α : Type} (E : Enc α) (t : TypeId) {v : Value} (k : KLit v) : Adv (mm σ M) (mm (ownR [] E t v [] :: σ) M) w w := by
  obtain ⟨a, rfl⟩ := k
  exact ⟨Kp.refl _ _, fun b hb => by
    rcases List.mem_append.1 hb with h | h
    · simp only [ownR, ob_lit0] at h; cases h
    · exact .inl h⟩
/-- What was made in between is owned beside what was owned before. -/
theorem mm_app (σ τ : List Res) : mm σ (mm τ M) = mm (σ ++ τ) M := by
  induction σ with
  | nil => rfl
  | cons r σ ih => simp only [mm, List.cons_append, ih]
theorem Hp.join {σ' : List Res} (h : Hp w0 Mu M σ w) (k : Hp w [] (mm σ M) σ' w') : Hp w0 Mu M (σ' ++ σ) w' := by
  have h' := h.ext k.kp
  have hnew : ∀ r ∈ σ', ∀ b ∈ r.fp, w.heap.size ≤ b := fun r hr b hb => by
    rcases (k.own r hr).2 b hb with h1 | h1
    · cases (k.own r hr).1 b h1
    · exact h1
  have hm := mm_app (M := M) σ' σ
  refine ⟨h'.kp, by rw [← hm]; exact k.mlt, ?_, h.base, fun r hr b hb hmb => ?_, fun r hr => ?_, pair_iff.2 ?_, fun r hr => ?_⟩
  · rw [← hm]; exact h.adv.trans k.adv
  · rcases List.mem_append.1 hr with h1 | h1
    · have := hnew r h1 b hb
      have := h.base b hmb
      have := h.kp.size
      omega
    · exact h.sepM r h1 b hb hmb
  · rcases List.mem_append.1 hr with h1 | h1
    · refine ⟨fun b hb => (by cases (k.own r h1).1 b hb), fun b hb => .inr (Nat.le_trans h.kp.size (hnew r h1 b hb))⟩
    · exact h.own r h1
  · refine List.pairwise_append.2 ⟨pair_iff.1 k.dis, pair_iff.1 h.dis, fun r hr s hs b hb hb' => ?_⟩
    have := hnew r hr b hb
    have := s.lt (h.all s hs) b hb'
    omega
  · rcases List.mem_append.1 hr with h1 | h1
    · rw [← hm]; exact k.all r h1
    · rw [← hm]; exact r.adv k.adv (fun b hb => k.kp.block b (r.lt (h.all r h1) b hb) (by simp)) (h.all r h1)
end

/-! Results, in temporaries or in variables. -/
inductive RsOk (P : Program) (L : Env) (w : World) : ResultVar → Value → Prop
  | tmp {t : Nat} {v : Value} (h : look L t = some v) : RsOk P L w (.tmp t) v
  | agg {t b o n : Nat} {e : TypeId} {cs : List Value} (h : look L t = some (.pointer (some ⟨b, o, none⟩))) (hc : Cells w b o cs) (he : ∀ w, (isAgg e).run P w = .ok true w) (hn : cs.length = n) (hz : ∀ w, (sizeOf e).run P w = .ok n w) : RsOk P L w (.cell t e) (.agg cs.toArray)
  | one {t : Nat} {p : Addr} {e : TypeId} {v : Value} (h : look L t = some (.pointer (some p))) (hc : w.cell? p = some v) (he : ∀ w, (isAgg e).run P w = .ok false w) : RsOk P L w (.cell t e) v
inductive AllRs (P : Program) (L : Env) (w : World) : List ResultVar → List Value → Prop
  | nil : AllRs P L w [] []
  | cons {r : ResultVar} {v : Value} {rs : List ResultVar} {vs : List Value} (h : RsOk P L w r v) (hr : AllRs P L w rs vs) : AllRs P L w (r :: rs) (v :: vs)
def packV : List Value → Value
  | [v] => v
  | vs => .tuple vs.toArray
def rdRes (T : Array Value) (r : ResultVar) : Sem Value := match r with
  | .tmp t => pure (T.getD t undef)
  | .cell x t => do loadVar t (← asAddr (T.getD x undef))
theorem RsOk.run {P : Program} {N : Nat} {ds : List Deferred} {L : Env} {w : World} {r : ResultVar} {v : Value} (h : RsOk P L w r v) {a : Act} (ha : Knows N ds L a) : (rdRes a.tmps r).run P w = .ok v w := by
  cases h with
  | tmp h => simp only [rdRes]; rw [ha.getD h]; simp
  | agg h hc he hn hz =>
    rename_i t b o n e cs
    subst hn
    have hr := run_loadCells_list (P := P) w ⟨b, o, none⟩ cs (fun j v hj => by rw [add_none]; exact hc j v hj)
    simp only [rdRes]; rw [ha.getD h]
    simp [asAddr, loadVar, he, hz, hr]
  | one h hc he =>
    simp only [rdRes]; rw [ha.getD h]
    simp [asAddr, loadVar, he, hc]
theorem results_rd (fn : Func) (T : Array Value) : results fn T = (do let vs ← fn.results.mapM (rdRes T); pure (if h : vs.size = 1 then vs[0] else .tuple vs)) := rfl
theorem fin_any {P : Program} {fn : Func} {R : Ending → World → Prop} {L : Env} {w : World} {rs : List ResultVar} {vs : List Value} (hr : fn.results = rs.toArray) (hv : AllRs P L w rs vs) (hl : Nat.ble vs.length 4 = true) (h : R (.returned (packV vs)) w) : FinR P fn R [] L w := by
  refine ⟨rfl, packV vs, fun a ha => ?_, h⟩
  rw [results_rd, hr]
  cases hv with
  | nil => simp [packV]
  | cons h1 t1 =>
    have h1 := h1.run ha
    cases t1 with
    | nil => simp [packV, h1]
    | cons h2 t2 =>
      have h2 := h2.run ha
      cases t2 with
      | nil => simp [packV, h1, h2]
      | cons h3 t3 =>
        have h3 := h3.run ha
        cases t3 with
        | nil => simp [packV, h1, h2, h3]
        | cons h4 t4 =>
          have h4 := h4.run ha
          cases t4 with
          | nil => simp [packV, h1, h2, h3, h4]
          | cons h5 t5 => simp at hl

section
variable {P : Program} {N : Nat} {ops : Array Oper} {q : Md} {rest : List Oper} {ds : List Deferred} {L : Env} {w w0 : World} {A B : Out} {X : Nat → Out} {Z : List PanicEntry → Out} {d : Nat} {ty : TypeId} {pos : String} {af : Array Edge}
theorem s_nc {x : Operand} {p : Addr} (hx : ev L x = some (.pointer (some p))) (hN : Nat.blt d N = true) (h : Reg P N ops q rest ds ((d, .pointer (some p)) :: L) w A B X Z) : Reg P N ops q (⟨some d, .nilCheck x, ty, pos, af, none⟩ :: rest) ds L w A B X Z :=
  Reg.val _ rfl rfl hN (fun a ha w' _ => by simp [execOp, ha.eval hx]) h
/-- x[l:h] -/
theorem s_slLH {α : Type} {E : Enc α} {M : List Nat} {t e : TypeId} {x y z : Operand} {v : Value} {xs : List α} {k k' : IntKind} {i j : Int} (hx : ev L x = some v) (hy : ev L y = some (.int k i)) (hz : ev L z = some (.int k' j)) (hv : RdS E M w v xs) (hi : 0 ≤ i ∧ i ≤ j ∧ j ≤ xs.length)
    (ht : P.underlying t = some (.slice e)) (hs : ∀ w, (sizeOf e).run P w = .ok E.n w) (hN : Nat.blt d N = true)
    (h : ∀ v', RdS E M w v' ((xs.take j.toNat).drop i.toNat) → Reg P N ops q rest ds ((d, v') :: L) w A B X Z) :
    Reg P N ops q (⟨some d, .slice t x (some y) (some z) none, ty, pos, af, none⟩ :: rest) ds L w A B X Z := by
  obtain ⟨a, c, rfl, h1, h2⟩ := hv.shape
  have ht' : P.underlying t = some (.slice (P.elem t)) := by simp [Program.elem, ht]
  have he : P.elem t = e := by simp [Program.elem, ht]
  have hr1 := (hv.take j.toNat (by omega)).drop i.toNat (by simp; omega)
  refine Reg.val _ rfl rfl hN (fun a' ha w' _ => ?_) (h _ hr1)
  have hr := run_slice_lh (P := P) w' t a xs.length c ht' k k' i j hi.1 hi.2.1 (by omega)
  simp [execOp, ha.eval hx, ha.eval hy, ha.eval hz, run_sliceAt_slice w' t _ _ _ _ ht', hr, he, hs, sliced]
/-- x[:0:0] -/
theorem s_sl00 {t e n : TypeId} {x : Operand} {a : Option Addr} {l c : Nat} {k k' : IntKind} (hx : ev L x = some (.slice a l c)) (ht : P.underlying t = some (.slice e)) (hs : ∀ w, (sizeOf e).run P w = .ok n w) (hN : Nat.blt d N = true)
    (h : ∀ v', KLit v' → Reg P N ops q rest ds ((d, v') :: L) w A B X Z) :
    Reg P N ops q (⟨some d, .slice t x none (some (.const (.int k 0))) (some (.const (.int k' 0))), ty, pos, af, none⟩ :: rest) ds L w A B X Z := by
  have ht' : P.underlying t = some (.slice (P.elem t)) := by simp [Program.elem, ht]
  have he : P.elem t = e := by simp [Program.elem, ht]
  refine Reg.val (.slice a 0 0) rfl rfl hN (fun a' ha w' _ => ?_) (h _ ⟨a, rfl⟩)
  have hr := run_slice_hm (P := P) w' t a l c ht' k k' 0 0 (by omega) (by omega) (by omega)
  have h0 : a'.eval (.const (.int k 0)) = .int k 0 := rfl
  have h1 : a'.eval (.const (.int k' 0)) = .int k' 0 := rfl
  simp [execOp, ha.eval hx, h0, h1, run_sliceAt_slice w' t _ _ _ _ ht', hr, he, hs, sliced]
/-! A slice against nil: nothing is known of an empty one. -/
open Classical in
noncomputable def nilq {α β : Type} (xs : List α) (f : Bool → Option β) : Option β := if xs = [] then (if f true = f false then f true else none) else f false
theorem nilq_out {α β : Type} {xs : List α} {f : Bool → Option β} {r : β} (h : nilq xs f = some r) {b : Bool} (hb : b = true → xs = []) : f b = some r := by
  unfold nilq at h
  split at h
  · split at h
    · rename_i he
      cases b with
      | true => exact h
      | false => rw [← he]; exact h
    · cases h
  · rename_i hx
    cases b with
    | true => exact absurd (hb rfl) hx
    | false => exact h
theorem nilq_same {α β : Type} {xs : List α} {f : Bool → Option β} {r : Option β} (h1 : xs = [] → f true = r) (h2 : f false = r) : nilq xs f = r := by
  unfold nilq
  split
  · rename_i hx; rw [h1 hx, h2]; simp
  · exact h2
theorem s_neN {α : Type} {E : Enc α} {M : List Nat} {w0 : World} {xs : List α} {t t' e : TypeId} {x y : Operand} {v : Value} (hv : RdS E M w0 v xs) (hx : ev L x = some v) (hy : ev L y = some (.slice none 0 0)) (ht : P.underlying t = some (.slice e)) (hN : Nat.blt d N = true)
    (h : ∀ b : Bool, (b = true → xs = []) → Reg P N ops q rest ds ((d, .bool (!b)) :: L) w A B X Z) : Reg P N ops q (⟨some d, .binOp .neq t x y t', ty, pos, af, none⟩ :: rest) ds L w A B X Z := by
  obtain ⟨a, c, rfl, _, _, h3⟩ := hv
  refine Reg.val (.bool (!a.isNone)) rfl rfl hN (fun a' ha w' _ => ?_) (h _ fun hb => ?_)
  · have he : (Op.equal t (.slice a xs.length c) (.slice none 0 0)).run P w' = .ok a.isNone w' := by
      have key : ∀ n, (Op.equalIn (n + 1) t (.slice a xs.length c) (.slice none 0 0)).run P w' = .ok a.isNone w' := fun n => by cases a <;> simp [Op.equalIn, run_underlying ht]
      exact key 9999
    have hg : eqGuard .neq t x y (.slice a xs.length c) (.slice none 0 0) = pure () := by rfl
    simp [execOp, ha.eval hx, ha.eval hy, hg, binOp, he]
  · rcases h3 with rfl | ⟨b, o, rfl, _⟩
    · rfl
    · cases hb
/-! Shifts and bits. -/
def shrO (x y : Int) (b : Nat) : Option Int := if 0 ≤ y then some (x.fdiv (2 ^ min y.toNat b)) else none
def shlO (k : IntKind) (x y : Int) : Option Int := if 0 ≤ y then some (k.wrap (x * 2 ^ min y.toNat k.bits)) else none
def andI (k : IntKind) (x y : Int) : Int := k.wrap ((BitVec.ofInt k.bits x &&& BitVec.ofInt k.bits y).toNat : Int)
theorem p_shr {t t' : TypeId} {x y : Operand} {k k' : IntKind} {i j n : Int} (hx : ev L x = some (.int k i)) (hy : ev L y = some (.int k' j)) (hN : Nat.blt d N = true) (hn : shrO i j k.bits = some n) (h : Reg P N ops q rest ds ((d, .int k n) :: L) w A B X Z) : Reg P N ops q (⟨some d, .binOp .shr t x y t', ty, pos, af, none⟩ :: rest) ds L w A B X Z := by
  unfold shrO at hn
  split at hn
  · rename_i hj
    cases hn
    have hj' : ¬ j < 0 := by omega
    exact Reg.val _ rfl rfl hN (fun a ha w' _ => by simp [execOp, ha.eval hx, ha.eval hy, eqGuard_shr, binOp_shr, Op.shift, hj']) h
  · cases hn
theorem p_shl {t t' : TypeId} {x y : Operand} {k k' : IntKind} {i j n : Int} (hx : ev L x = some (.int k i)) (hy : ev L y = some (.int k' j)) (hN : Nat.blt d N = true) (hn : shlO k i j = some n) (h : Reg P N ops q rest ds ((d, .int k n) :: L) w A B X Z) : Reg P N ops q (⟨some d, .binOp .shl t x y t', ty, pos, af, none⟩ :: rest) ds L w A B X Z := by
  unfold shlO at hn
  split at hn
  · rename_i hj
    cases hn
    have hj' : ¬ j < 0 := by omega
    exact Reg.val _ rfl rfl hN (fun a ha w' _ => by simp [execOp, ha.eval hx, ha.eval hy, eqGuard_shl, binOp_shl, Op.shift, hj']) h
  · cases hn
theorem s_and {t t' : TypeId} {x y : Operand} {k : IntKind} {i j : Int} (hx : ev L x = some (.int k i)) (hy : ev L y = some (.int k j)) (hN : Nat.blt d N = true) (h : Reg P N ops q rest ds ((d, .int k (andI k i j)) :: L) w A B X Z) : Reg P N ops q (⟨some d, .binOp .and t x y t', ty, pos, af, none⟩ :: rest) ds L w A B X Z :=
  Reg.val _ rfl rfl hN (fun a ha w' _ => by simp [execOp, ha.eval hx, ha.eval hy, eqGuard_and, binOp_and, Op.intBits, andI]) h
theorem wrap_inK (k : IntKind) (x : Int) : InK k (k.wrap x) := by
  cases k <;> simp [InK, IntKind.min, IntKind.max, IntKind.signed, IntKind.bits, IntKind.wrap] <;> (try split) <;> omega
theorem andI_in {k : IntKind} {x y : Int} : InK k (andI k x y) := wrap_inK _ _
theorem shlO_in {k : IntKind} {x y n : Int} (h : shlO k x y = some n) : InK k n := by
  unfold shlO at h
  split at h
  · cases h; exact wrap_inK _ _
  · cases h
theorem shrO_in {k : IntKind} {x y n : Int} {b : Nat} (h : shrO x y b = some n) (hx : InK k x) : InK k n := by
  unfold shrO at h
  split at h
  · cases h
    have hp : (0 : Int) < 2 ^ min y.toNat b := Int.pow_pos (by omega)
    rw [Int.fdiv_eq_ediv_of_nonneg _ (by omega)]
    have hmin : k.min ≤ 0 := by cases k <;> simp [IntKind.min, IntKind.signed, IntKind.bits]
    have hmax : 0 ≤ k.max := by cases k <;> simp [IntKind.max, IntKind.signed, IntKind.bits]
    have h1 := hx.1
    have h2 := hx.2
    rcases Int.lt_or_le x 0 with hneg | hpos
    · have a1 : x ≤ x / 2 ^ min y.toNat b := by
        have := Int.ediv_mul_le x (show (2 : Int) ^ min y.toNat b ≠ 0 by omega)
        have h3 : x / 2 ^ min y.toNat b < 0 := Int.ediv_neg_of_neg_of_pos hneg hp
        have h4 := Int.lt_ediv_add_one_mul_self x hp
        rcases Int.lt_or_le (x / 2 ^ min y.toNat b) x with hh | hh
        · exfalso
          have h5 : x / 2 ^ min y.toNat b + 1 ≤ x := by omega
          have h6 : (x / 2 ^ min y.toNat b + 1) * 2 ^ min y.toNat b ≤ x * 2 ^ min y.toNat b := Int.mul_le_mul_of_nonneg_right h5 (by omega)
          have h7 : x * 2 ^ min y.toNat b ≤ x * 1 := Int.mul_le_mul_of_nonpos_left (by omega) (by omega)
          omega
        · exact hh
      have a2 : x / 2 ^ min y.toNat b < 0 := Int.ediv_neg_of_neg_of_pos hneg hp
      exact ⟨by omega, by omega⟩
    · have a1 := Int.ediv_le_self (2 ^ min y.toNat b) hpos
      have a2 : 0 ≤ x / 2 ^ min y.toNat b := Int.ediv_nonneg hpos (by omega)
      exact ⟨by omega, by omega⟩
  · cases h
theorem s_eqB {t t' : TypeId} {x y : Operand} {b c : Bool} (hx : ev L x = some (.bool b)) (hy : ev L y = some (.bool c)) (hN : Nat.blt d N = true) (ht : P.underlying t = some .bool) (h : Reg P N ops q rest ds ((d, .bool (b == c)) :: L) w A B X Z) : Reg P N ops q (⟨some d, .binOp .eql t x y t', ty, pos, af, none⟩ :: rest) ds L w A B X Z := by
  refine Reg.val (.bool (b == c)) rfl rfl hN (fun a ha w' _ => ?_) h
  have he : (Op.equal t (.bool b) (.bool c)).run P w' = .ok (b == c) w' := by
    have key : ∀ n, (Op.equalIn (n + 1) t (.bool b) (.bool c)).run P w' = .ok (b == c) w' := fun n => by simp [Op.equalIn, run_underlying ht]
    exact key 9999
  have hg : eqGuard .eql t x y (.bool b) (.bool c) = pure () := by rfl
  simp [execOp, ha.eval hx, ha.eval hy, hg, binOp, he]
theorem s_neB {t t' : TypeId} {x y : Operand} {b c : Bool} (hx : ev L x = some (.bool b)) (hy : ev L y = some (.bool c)) (hN : Nat.blt d N = true) (ht : P.underlying t = some .bool) (h : Reg P N ops q rest ds ((d, .bool (!(b == c))) :: L) w A B X Z) : Reg P N ops q (⟨some d, .binOp .neq t x y t', ty, pos, af, none⟩ :: rest) ds L w A B X Z := by
  refine Reg.val (.bool (!(b == c))) rfl rfl hN (fun a ha w' _ => ?_) h
  have he : (Op.equal t (.bool b) (.bool c)).run P w' = .ok (b == c) w' := by
    have key : ∀ n, (Op.equalIn (n + 1) t (.bool b) (.bool c)).run P w' = .ok (b == c) w' := fun n => by simp [Op.equalIn, run_underlying ht]
    exact key 9999
  have hg : eqGuard .neq t x y (.bool b) (.bool c) = pure () := by rfl
  simp [execOp, ha.eval hx, ha.eval hy, hg, binOp, he]
/-! Literals of structs. -/
def fillL (pl : List (Nat × Nat)) : List Value → List (Nat × List Value) → Option (List Value)
  | cs, [] => some cs
  | cs, (i, vs) :: r => match pl[i]? with
    | none => none
    | some (off, size) => if vs.length = size ∧ off + vs.length ≤ cs.length then fillL pl (setAt cs off vs) r else none
theorem fillL_run (pl : List (Nat × Nat)) (f : Nat → Option (Nat × Nat)) (hf : ∀ i, f i = pl[i]?) : ∀ (parts : List (Nat × Value)) (ps : List (Nat × List Value)) (cs out : List Value),
    parts.map (·.1) = ps.map (·.1) → Cls (parts.map (·.2)) (ps.map (·.2)) → fillL pl cs ps = some out → Instr.fill f cs.toArray parts = some out.toArray
  | [], [], cs, out, _, _, h => by simp [fillL] at h; subst h; rfl
  | (i, v) :: parts, (j, vs) :: ps, cs, out, hi, ⟨hv, hc⟩, h => by
    simp only [List.map_cons, List.cons.injEq] at hi
    obtain ⟨rfl, hi⟩ := hi
    simp only [fillL] at h
    have hv : v.cells = vs.toArray := hv
    rw [Instr.fill, hf]
    cases hp : pl[i]? with
    | none => simp [hp] at h
    | some p =>
      obtain ⟨off, size⟩ := p
      simp only [hp] at h
      split at h
      · rename_i hh
        have h1 : ¬ (v.cells.size ≠ size ∨ off + v.cells.size > cs.toArray.size) := by rw [hv]; simp; exact hh
        simp only []
        rw [if_neg (by simpa using h1)]
        have hfold := foldl_zip off vs 0 (cs.take off) (cs.drop off) (by simp; omega) (by simp; omega)
        rw [hv, ← Array.foldl_toList]
        simp only [Array.toList_zipIdx]
        rw [List.take_append_drop] at hfold
        rw [hfold]
        refine fillL_run pl f hf parts ps _ out hi hc ?_
        rw [← h]
        congr 1
        rw [setAt_eq _ _ _ (by omega)]
        simp [List.drop_drop]
      · cases h
  | [], _ :: _, _, _, h, _, _ => by simp at h
  | _ :: _, [], _, _, h, _, _ => by simp at h
theorem s_bd {t : TypeId} {fields : Array Field} {z : Value} {zc out : List Value} {parts : List (Nat × Operand)} {vs : List Value} {css : List (List Value)} (pl : List (Nat × Nat)) (hz : ∀ w, (zeroValue t).run P w = .ok z w) (hzc : z.cells = zc.toArray) (ht : P.underlying t = some (.struct fields))
    (hpl : ∀ w, (fields.mapM (fun f => Prod.mk f.offset <$> sizeOf f.type) : Sem (Array (Nat × Nat))).run P w = .ok pl.toArray w) (hvs : evs L (parts.map (·.2)) = some vs) (hc : Cls vs css) (hf : fillL pl zc ((parts.map (·.1)).zip css) = some out) (hN : Nat.blt d N = true)
    (h : Reg P N ops q rest ds ((d, .agg out.toArray) :: L) w A B X Z) : Reg P N ops q (⟨some d, .build t parts.toArray, ty, pos, af, none⟩ :: rest) ds L w A B X Z := by
  refine Reg.val _ rfl rfl hN (fun a ha w' _ => ?_) h
  have hmap := evs_map ha _ _ hvs
  have hlen : ∀ (vs : List Value) (css : List (List Value)), Cls vs css → vs.length = css.length := by
    intro vs
    induction vs with
    | nil => intro css h; cases css with | nil => rfl | cons _ _ => exact h.elim
    | cons v vs ih => intro css h; cases css with | nil => exact h.elim | cons c css => simp [ih css h.2]
  have hvl := hlen vs css hc
  have hpv : parts.length = vs.length := by rw [← hmap]; simp
  have hparts : (parts.map fun (p : Nat × Operand) => (p.1, a.eval p.2)) = (parts.map (·.1)).zip vs := by
    rw [← hmap, List.map_map, List.zip_map']
    rfl
  have hr := fillL_run pl (fun i => pl[i]?) (fun i => rfl) ((parts.map (·.1)).zip vs) ((parts.map (·.1)).zip css) zc out
    (by rw [List.map_fst_zip (by simp; omega), List.map_fst_zip (by simp; omega)]) (by rw [List.map_snd_zip (by simp; omega), List.map_snd_zip (by simp; omega)]; exact hc) hf
  simp only [execOp, Instr.build]
  simp [hz, hzc, run_underlying ht, hpl, hparts, hr]
/-! Elements of a slice of one's own. -/
theorem Own.cellsAt {α : Type} {E : Enc α} {e Bb : Nat} {M : List Nat} {w : World} {v : Value} {xs : List α} {g j : Nat} {z : α} (h : Own E e Bb M w v xs) (hg : ob v = [g]) (hj : xs[j]? = some z) : ∃ cs, E.R M w cs z ∧ Cells w g (j * E.n) cs := by
  have hl : j < xs.length := by
    rcases Nat.lt_or_ge j xs.length with h | h
    · exact h
    · rw [List.getElem?_eq_none h] at hj; cases hj
  obtain ⟨g', cap, cur, rfl, hob, _, hheap, hle, _, hsize, hch⟩ := h.at_ (by omega)
  rw [hob] at hg
  have hgg : g' = g := by simpa using hg
  subst hgg
  rw [List.getElem?_eq_getElem hl] at hj
  cases hj
  refine ⟨_, E.mon (fun b hb => .inl (List.mem_cons_of_mem _ hb)) (hch.get j hl), fun k u hk => ?_⟩
  rw [List.getElem?_take] at hk
  split at hk
  · rw [List.getElem?_drop, List.getElem?_take] at hk
    split at hk
    · exact cells_of_row hheap (j := j * E.n + k) (u := u) (by simpa using hk)
    · cases hk
  · cases hk
variable {Mu M : List Nat} {σ : List Res}
theorem y_ia (i : Nat) {α : Type} {E : Enc α} {mu : List Nat} {e' t e : TypeId} {x y : Operand} {v : Value} {xs : List α} {k : IntKind} {j : Int} {z : α} (hI : Hp w0 Mu M σ w) (hi : σ[i]? = some (ownR mu E e' v xs))
    (hx : ev L x = some v) (hy : ev L y = some (.int k j)) (hz : ixo xs j = some z) (ht : P.underlying t = some (.slice e)) (hs : ∀ w, (sizeOf e).run P w = .ok E.n w) (hN : Nat.blt d N = true)
    (h : ∀ g cs, ob v = [g] → E.R (mm σ M) w cs z → Cells w g (j.toNat * E.n) cs → Reg P N ops q rest ds ((d, .pointer (some ⟨g, j.toNat * E.n, none⟩)) :: L) w A B X Z) :
    Reg P N ops q (⟨some d, .indexAddr t x y, ty, pos, af, none⟩ :: rest) ds L w A B X Z := by
  obtain ⟨h0, h1, h2⟩ := ixo_out hz
  refine s_iaO hx hy (hI.ownAt i hi) ⟨h0, h1⟩ ht hs hN fun g hg => ?_
  obtain ⟨cs, hR, hC⟩ := (hI.ownAt i hi).cellsAt hg h2
  exact h g cs hg hR hC
theorem y_sto (i : Nat) {α : Type} {E : Enc α} {mu : List Nat} {e t : TypeId} {x y : Operand} {v u : Value} {xs l : List α} {j : Int} {g o n : Nat} {cs vs : List Value} {z z' : α} (hI : Hp w0 Mu M σ w) (hi : σ[i]? = some (ownR mu E e v xs))
    (hx : ev L x = some (.pointer (some ⟨g, j.toNat * E.n + o, none⟩))) (hy : ev L y = some u) (hu : u.cells = vs.toArray) (hg : ob v = [g]) (hset : seto xs j z' = some l) (hR : E.R (mm σ M) w cs z) (hC : Cells w g (j.toNat * E.n) cs)
    (hR' : E.R (mm σ M) w (setAt cs o vs) z') (hl : Nat.ble (o + vs.length) cs.length = true) (hsz : ∀ w, (sizeOf t).run P w = .ok n w) (hn : vs.length = n) (h1 : ∀ u ∈ vs, u.oneCell' = true)
    (h : ∀ w', Hp w0 Mu M (σ.set i (ownR mu E e v l)) w' → Adv (mm σ M) (mm (σ.set i (ownR mu E e v l)) M) w w' → Reg P N ops .seq rest ds L w' A B X Z) :
    Reg P N ops .seq (⟨none, .store t x y, ty, pos, af, none⟩ :: rest) ds L w A B X Z := by
  subst hn
  obtain ⟨hj0, hj1, rfl⟩ := seto_out hset
  have hjn : j.toNat < xs.length := by omega
  have ho := hI.ownAt i hi
  obtain ⟨g', cap, cur, rfl, hob, hB, hheap, hle, hmax, hsize, hch⟩ := ho.at_ (by omega)
  have hg' := hg
  rw [hob] at hg'
  have hgg : g' = g := by simpa using hg'
  subst hgg
  have hlen := E.len hR
  have hl' := Nat.le_of_ble_eq_true hl
  have hroom : j.toNat * E.n + E.n ≤ xs.length * E.n := by
    have := Nat.mul_le_mul_right E.n (show j.toNat + 1 ≤ xs.length from hjn)
    rw [Nat.add_mul, Nat.one_mul] at this; exact this
  have hroom2 : xs.length * E.n ≤ (cap + 1) * E.n := Nat.mul_le_mul_right _ hle
  have hcl : cur.toList.length = (cap + 1) * E.n := by rw [← hsize]; exact Array.length_toList
  have hrow : Row e w g' cur.toList := hheap
  have hcs : cs = (cur.toList.drop (j.toNat * E.n)).take E.n := by
    apply List.ext_getElem?
    intro k
    rcases Nat.lt_or_ge k E.n with hk | hk
    · have h5 : k < cs.length := by omega
      have h6 := hC k _ (List.getElem?_eq_getElem h5)
      have h7 : w.cell? ⟨g', j.toNat * E.n + k, none⟩ = cur.toList[j.toNat * E.n + k]? := by
        show (match w.heap[g']? with | some (.cells c _ _) => if Option.isSome (none : Option Nat) then none else c[j.toNat * E.n + k]? | _ => none) = _
        rw [hheap]; simp
      rw [List.getElem?_take, if_pos hk, List.getElem?_drop, ← h7, h6, List.getElem?_eq_getElem h5]
    · rw [List.getElem?_eq_none (by omega), List.getElem?_eq_none (by simp; omega)]
  obtain ⟨w', hrun, hw', hk⟩ := run_storeAt (P := P) g' e vs 0 cur.toList w (j.toNat * E.n + o) hrow (by rw [hcl]; omega) h1
  have hk' : Kp (ob (Value.slice (some ⟨g', 0, none⟩) xs.length (cap + 1))) w w' := by
    rw [hob]; exact hk
  have hsub := hI.ownSub i hi
  rw [hob] at hsub
  have hgm : g' ∈ mm σ M := hsub g' (by simp)
  have hadv : Adv (g' :: mm σ M) (g' :: mm σ M) w w' := ⟨hk.mono fun x hx => .inl (by simp at hx; subst hx; exact List.mem_cons_self ..), fun _ h => .inl h⟩
  have hown : Own E e 0 (mm σ M) w' (Value.slice (some ⟨g', 0, none⟩) xs.length (cap + 1)) (xs.set j.toNat z') := by
    refine .inr ⟨g', cap, (setAt cur.toList (j.toNat * E.n + o) vs).toArray, by simp, Nat.zero_le _, by simpa [Row] using hw', by simpa using hle, hmax, by simp [setAt_len, hcl], ?_⟩
    have he : ((setAt cur.toList (j.toNat * E.n + o) vs).toArray.toList.take ((xs.set j.toNat z').length * E.n)) = (cur.toList.take (xs.length * E.n)).take (j.toNat * E.n) ++ setAt cs o vs ++ (cur.toList.take (xs.length * E.n)).drop (j.toNat * E.n + E.n) := by
      rw [show (setAt cur.toList (j.toNat * E.n + o) vs).toArray.toList = setAt cur.toList (j.toNat * E.n + o) vs from rfl, setAt_eq _ _ _ (by rw [hcl]; omega), setAt_eq cs _ _ hl', List.length_set, hcs]
      apply List.ext_getElem?
      intro i
      simp only [List.getElem?_take, List.getElem?_append, List.length_append, List.length_take, List.getElem?_drop, List.length_drop, hcl]
      grind
    rw [he]
    refine Chunks.adv hadv (Chunks.setN (E.mon (fun b hb => ?_) hR') hch j.toNat hjn)
    rcases List.mem_cons.1 hb with rfl | hb
    · exact .inl hgm
    · exact .inl hb
  refine Reg.sto w' rfl rfl (fun a ha => ?_) (h w' (hI.upd i hi hk' (fun b hb => .inl hb) rfl fun M' hM' => hown.mon hM') (hI.updA (r' := ownR mu E e _ (xs.set j.toNat z')) i hi hk' fun b hb => .inl hb))
  simp [execOp, ha.eval hx, ha.eval hy, Instr.storeAt, Instr.sureAddr, storeVar, hu, hsz, hrun]
end
end Go.Sx
