/-
  Part 2 of the texts that the statement's proof stands on: what memory holds, how code is walked, what the functions reckon. In the order in which they build.
-/
import Derived.Maps.RangeRun
import Derived.Shelf.SlGeneric
import Derived.Shelf.Lays8
import Derived.Ground.Names8Prog
import Derived.Test.YtdbogmmdogjhpaaProg
import Derived.Shelf.SlLaysM
import Derived.Ground.SlgmProg
import Derived.ProofKit
import Derived.Deep.Slices
import Derived.Test.YtdbogmmdogjhpaaRd1
set_option linter.unusedVariables false
set_option linter.unusedSectionVars false
namespace Go.Sx
open Go Go.RowKit Go.ChangeMaps
variable [Trk]
/-! The plain side. -/
abbrev FMap (κ α : Type) := κ → Option α
section
variable {κ α : Type}
def fnone : FMap κ α := fun _ => none
def fput [DecidableEq κ] (f : FMap κ α) (a : κ) (z : α) : FMap κ α := fun k => if k = a then some z else f k
def fdel [DecidableEq κ] (f : FMap κ α) (a : κ) : FMap κ α := fun k => if k = a then none else f k
/-- A list of all that a map holds, each key once. -/
def Lists (f : FMap κ α) (l : List (κ × α)) : Prop := (l.map (·.1)).Nodup ∧ ∀ a y, (a, y) ∈ l ↔ f a = some y
theorem Lists.perm {f : FMap κ α} {l l' : List (κ × α)} (h : Lists f l) (hp : l'.Perm l) : Lists f l' :=
  ⟨(hp.map _).nodup_iff.2 h.1, fun a y => hp.mem_iff.trans (h.2 a y)⟩
theorem Lists.nil : Lists (fnone : FMap κ α) [] := ⟨List.nodup_nil, fun a y => by simp [fnone]⟩
theorem Lists.none {f : FMap κ α} {l : List (κ × α)} (h : Lists f l) {a : κ} (ha : ∀ x ∈ l, x.1 ≠ a) : f a = none := by
  cases hf : f a with
  | none => rfl
  | some y => exact absurd rfl (ha _ ((h.2 a y).2 hf))
theorem Lists.push [DecidableEq κ] {f : FMap κ α} {l : List (κ × α)} (h : Lists f l) {a : κ} (z : α) (ha : ∀ x ∈ l, x.1 ≠ a) : Lists (fput f a z) (l ++ [(a, z)]) := by
  refine ⟨?_, fun k y => ?_⟩
  · rw [List.map_append, List.nodup_append]
    refine ⟨h.1, by simp, fun x hx y hy => ?_⟩
    obtain ⟨p, hp, rfl⟩ := List.mem_map.1 hx
    have : y = a := by simpa using hy
    rw [this]; exact ha p hp
  · rw [List.mem_append, h.2]
    by_cases e : k = a
    · subst e
      have h0 : f k = Option.none := h.none ha
      simp [fput, h0, eq_comm]
    · simp [fput, e]
theorem key_uniq {l : List (κ × α)} (hn : (l.map (·.1)).Nodup) {i j : Nat} {x y : κ × α} (hi : l[i]? = some x) (hj : l[j]? = some y) (he : x.1 = y.1) : i = j := by
  have hi' : (l.map (·.1))[i]? = some x.1 := by simp [hi]
  have hj' : (l.map (·.1))[j]? = some x.1 := by simp [hj, he]
  have li : i < (l.map (·.1)).length := by
    rcases Nat.lt_or_ge i (l.map (·.1)).length with h | h
    · exact h
    · rw [List.getElem?_eq_none h] at hi'; cases hi'
  exact (List.getElem?_inj li hn).1 (hi'.trans hj'.symm)
theorem Lists.set [DecidableEq κ] {f : FMap κ α} {l : List (κ × α)} (h : Lists f l) {j : Nat} {a : κ} {y : α} (hj : l[j]? = some (a, y)) (z : α) : Lists (fput f a z) (l.set j (a, z)) := by
  have hlt : j < l.length := by
    rcases Nat.lt_or_ge j l.length with h | h
    · exact h
    · rw [List.getElem?_eq_none h] at hj; cases hj
  refine ⟨?_, fun k w => ?_⟩
  · have : (l.set j (a, z)).map (·.1) = l.map (·.1) := by
      rw [List.map_set]
      refine List.ext_getElem? fun i => ?_
      rw [List.getElem?_set]
      split
      · rename_i e
        subst e
        simp [hlt]
        have := List.getElem?_eq_getElem hlt
        rw [hj] at this
        exact (congrArg Prod.fst (Option.some.inj this))
      · rfl
    rw [this]; exact h.1
  · constructor
    · intro hm
      obtain ⟨i, hi⟩ := List.getElem?_of_mem hm
      rw [List.getElem?_set] at hi
      split at hi
      · simp at hi
        obtain ⟨rfl, rfl⟩ := hi
        simp [fput]
      · rename_i hne
        have hk : k ≠ a := fun e => hne (key_uniq h.1 hj hi (by simp [e]))
        have := (h.2 k w).1 (List.mem_of_getElem? hi)
        simpa [fput, hk] using this
    · intro hf
      by_cases e : k = a
      · subst e
        simp [fput] at hf
        subst hf
        exact List.mem_of_getElem? (i := j) (by simp [hlt])
      · simp [fput, e] at hf
        obtain ⟨i, hi⟩ := List.getElem?_of_mem ((h.2 k w).2 hf)
        refine List.mem_of_getElem? (i := i) ?_
        rw [List.getElem?_set, if_neg, hi]
        intro e2; subst e2
        rw [hj] at hi; cases hi; exact e rfl
theorem Lists.del [DecidableEq κ] {f : FMap κ α} {l : List (κ × α)} (h : Lists f l) {j : Nat} {a : κ} {y : α} (hj : l[j]? = some (a, y)) : Lists (fdel f a) (l.eraseIdx j) := by
  refine ⟨(List.Sublist.map _ (List.eraseIdx_sublist l j)).nodup h.1, fun k w => ?_⟩
  rw [List.mem_eraseIdx_iff_getElem?]
  constructor
  · rintro ⟨i, hne, hi⟩
    have hk : k ≠ a := fun e => hne (key_uniq h.1 hi hj (by simp [e]))
    have := (h.2 k w).1 (List.mem_of_getElem? hi)
    simpa [fdel, hk] using this
  · intro hf
    by_cases e : k = a
    · simp [fdel, e] at hf
    · simp [fdel, e] at hf
      obtain ⟨i, hi⟩ := List.getElem?_of_mem ((h.2 k w).2 hf)
      refine ⟨i, fun e2 => ?_, hi⟩
      subst e2; rw [hj] at hi; cases hi; exact e rfl
theorem Lists.del0 [DecidableEq κ] {f : FMap κ α} {l : List (κ × α)} (h : Lists f l) {a : κ} (ha : ∀ x ∈ l, x.1 ≠ a) : Lists (fdel f a) l := by
  have : fdel f a = f := by
    funext k
    by_cases e : k = a
    · subst e; simp [fdel, h.none ha]
    · simp [fdel, e]
  rw [this]; exact h
end
/-- What is reckoned, whatever the order in which things come. -/
def AnyR {S β : Type} (f : S → β → Option S) (l : List β) (s : S) (r : S) : Prop := ∀ l' : List β, l'.Perm l → l'.foldlM f s = some r
theorem AnyR.nil {S β : Type} {f : S → β → Option S} {s r : S} (h : AnyR f [] s r) : s = r := by
  have := h [] (List.Perm.refl _)
  simpa using this
theorem AnyR.step {S β : Type} {f : S → β → Option S} {l l' : List β} {x : β} {s r : S} (h : AnyR f l s r) (hp : l.Perm (x :: l')) : ∃ s', f s x = some s' ∧ AnyR f l' s' r := by
  have h1 : ∀ l'' : List β, l''.Perm l' → (x :: l'').foldlM f s = some r := fun l'' hl => h _ ((hl.cons x).trans hp.symm)
  have h2 := h1 l' (List.Perm.refl _)
  rw [List.foldlM_cons] at h2
  cases hf : f s x with
  | none => rw [hf] at h2; cases h2
  | some s' =>
    refine ⟨s', rfl, fun l'' hl => ?_⟩
    have h3 := h1 l'' hl
    rw [List.foldlM_cons, hf] at h3
    exact h3
open Classical in
/-- Going through a map: the answer, if it is one whatever the order. -/
noncomputable def anyM {S κ α : Type} (f : S → κ × α → Option S) (m : FMap κ α) (s : S) : Option S := if h : ∃ r, ∀ l, Lists m l → l.foldlM f s = some r then some h.choose else none
theorem anyM_out {S κ α : Type} {f : S → κ × α → Option S} {m : FMap κ α} {s r : S} (h : anyM f m s = some r) {l : List (κ × α)} (hl : Lists m l) : AnyR f l s r := by
  unfold anyM at h
  split at h
  · rename_i h1
    rw [← Option.some.inj h]
    exact fun l' hp => h1.choose_spec l' (hl.perm hp)
  · cases h
theorem anyM_of {S κ α : Type} {f : S → κ × α → Option S} {m : FMap κ α} {s r : S} {l0 : List (κ × α)} (h0 : Lists m l0) (h : ∀ l, Lists m l → l.foldlM f s = some r) : anyM f m s = some r := by
  unfold anyM
  rw [dif_pos ⟨r, h⟩]
  have h1 := (⟨r, h⟩ : ∃ r, ∀ l, Lists m l → l.foldlM f s = some r).choose_spec l0 h0
  rw [h l0 h0] at h1
  exact h1.symm
/-! The memory's side. -/
/-- How keys look, and what asking for them does. -/
structure Ky (P : Program) (kt : TypeId) (κ : Type) where
  val : κ → Value
  ok : κ → Prop
  inj : ∀ {a b : κ}, ok a → ok b → val a = val b → a = b
  check : ∀ {a : κ}, ok a → ∀ (w : World) (em : Bool), (Instr.checkKey em 10000 kt (val a)).run P w = .ok () w
  find : ∀ {a : κ}, ok a → ∀ (es : List MapEntry), (∀ e ∈ es, ∃ b, ok b ∧ e.key = val b) → ((∀ w, (Instr.findKey kt (val a) es).run P w = .ok none w) ∧ ∀ e ∈ es, e.key ≠ val a) ∨ ∃ j e, (∀ w, (Instr.findKey kt (val a) es).run P w = .ok (some (j, e.val)) w) ∧ es[j]? = some e ∧ e.key = val a
  stays : ∀ {a : κ}, ok a → ∀ w, (Instr.keyThatStays (val a) (val a)).run P w = .ok (val a) w
def intKy {P : Program} {kt : TypeId} (q : IntKind) (hk : P.underlying kt = some (.int q)) : Ky P kt Int where
  val := fun a => .int q a
  ok := InK q
  inj := fun _ _ h => by cases h; rfl
  check := fun {a} _ w em => MapKept.run_checkKey (d := .int q) (k := .int q a) hk rfl em 9999
  find := fun {a} _ es hes => by
    have hks : ∀ x ∈ es, MapKept.IsKey (.int q) x.key := fun x hx => by
      obtain ⟨b, _, hb⟩ := hes x hx
      rw [hb]; exact rfl
    rcases MapKept.findNow_spec (d := .int q) (k := .int q a) rfl es 0 hks with ⟨h1, h2⟩ | ⟨j, e, h1, h2, h3⟩
    · exact .inl ⟨fun w => MapKept.run_findKey hk h1, h2⟩
    · exact .inr ⟨j, e, fun w => by simpa using MapKept.run_findKey (w := w) hk h1, h2, h3⟩
  stays := fun {a} _ w => MapKept.run_keyThatStays (d := .int q) (k := .int q a) rfl
/-- Stamps of entries: none twice, all before now. -/
def Stp (es : Array MapEntry) (c : Nat) : Prop := (es.toList.map (·.born)).Nodup ∧ ∀ x ∈ es.toList, x.born < c
section
variable {P : Program} {kt : TypeId} {κ α : Type} {K : Ky P kt κ} {E : Enc α} {ag : Bool}
def EntK (K : Ky P kt κ) (E : Enc α) (ag : Bool) (M : List Nat) (w : World) : List MapEntry → List (κ × α) → Prop
  | [], [] => True
  | e :: es, x :: xs => (e.key = K.val x.1 ∧ K.ok x.1) ∧ Vl E ag M w e.val x.2 ∧ EntK K E ag M w es xs
  | _, _ => False
theorem EntK.adv {M M' : List Nat} {w w' : World} (ha : Adv M M' w w') : ∀ {es : List MapEntry} {xs : List (κ × α)}, EntK K E ag M w es xs → EntK K E ag M' w' es xs
  | [], [], h => h
  | _ :: _, _ :: _, ⟨h1, h2, h3⟩ => ⟨h1, h2.adv ha, EntK.adv ha h3⟩
  | [], _ :: _, h => h.elim
  | _ :: _, [], h => h.elim
theorem EntK.mon {M M' : List Nat} {w : World} (ha : ∀ b ∈ M', b ∈ M ∨ w.heap.size ≤ b) : ∀ {es : List MapEntry} {xs : List (κ × α)}, EntK K E ag M w es xs → EntK K E ag M' w es xs
  | [], [], h => h
  | _ :: _, _ :: _, ⟨h1, h2, h3⟩ => ⟨h1, h2.mon ha, EntK.mon ha h3⟩
  | [], _ :: _, h => h.elim
  | _ :: _, [], h => h.elim
theorem EntK.len {M : List Nat} {w : World} : ∀ {es : List MapEntry} {xs : List (κ × α)}, EntK K E ag M w es xs → es.length = xs.length
  | [], [], _ => rfl
  | _ :: _, _ :: _, ⟨_, _, h⟩ => by simp [EntK.len h]
  | [], _ :: _, h => h.elim
  | _ :: _, [], h => h.elim
theorem EntK.at {M : List Nat} {w : World} : ∀ {es : List MapEntry} {xs : List (κ × α)}, EntK K E ag M w es xs → ∀ {j : Nat} {e : MapEntry}, es[j]? = some e → ∃ x, xs[j]? = some x ∧ e.key = K.val x.1 ∧ K.ok x.1 ∧ Vl E ag M w e.val x.2
  | [], _, _, j, e, he => by simp at he
  | e :: es, x :: xs, ⟨h1, h2, h3⟩, 0, e', he => by simp at he; subst he; exact ⟨x, rfl, h1.1, h1.2, h2⟩
  | e :: es, x :: xs, ⟨h1, h2, h3⟩, j + 1, e', he => by simpa using EntK.at h3 (j := j) (e := e') (by simpa using he)
  | _ :: _, [], h, _, _, _ => h.elim
theorem EntK.back {M : List Nat} {w : World} : ∀ {es : List MapEntry} {xs : List (κ × α)}, EntK K E ag M w es xs → ∀ x ∈ xs, ∃ e ∈ es, e.key = K.val x.1
  | [], [], _, x, hx => by cases hx
  | e :: es, x :: xs, ⟨h1, h2, h3⟩, y, hy => by
    rcases List.mem_cons.1 hy with rfl | hy
    · exact ⟨e, by simp, h1.1⟩
    · obtain ⟨e', h4, h5⟩ := EntK.back h3 y hy
      exact ⟨e', List.mem_cons_of_mem _ h4, h5⟩
  | [], _ :: _, h, _, _ => h.elim
  | _ :: _, [], h, _, _ => h.elim
theorem EntK.keys {M : List Nat} {w : World} {es : List MapEntry} {xs : List (κ × α)} (h : EntK K E ag M w es xs) : ∀ e ∈ es, ∃ b, K.ok b ∧ e.key = K.val b := fun e he => by
  obtain ⟨j, hj⟩ := List.getElem?_of_mem he
  obtain ⟨x, _, h1, h2, _⟩ := h.at hj
  exact ⟨x.1, h2, h1⟩
theorem EntK.push {M : List Nat} {w : World} {a : κ} {v : Value} {z : α} {c : Nat} (ha : K.ok a) (hv : Vl E ag M w v z) : ∀ {es : List MapEntry} {xs : List (κ × α)}, EntK K E ag M w es xs → EntK K E ag M w (es ++ [⟨K.val a, v, c⟩]) (xs ++ [(a, z)])
  | [], [], _ => ⟨⟨rfl, ha⟩, hv, trivial⟩
  | _ :: _, _ :: _, ⟨h1, h2, h3⟩ => ⟨h1, h2, EntK.push ha hv h3⟩
  | [], _ :: _, h => h.elim
  | _ :: _, [], h => h.elim
theorem EntK.set {M : List Nat} {w : World} {a : κ} {v : Value} {z : α} (ha : K.ok a) (hv : Vl E ag M w v z) : ∀ {es : List MapEntry} {xs : List (κ × α)} (j : Nat), EntK K E ag M w es xs → EntK K E ag M w (es.modify j fun e => { e with key := K.val a, val := v }) (xs.set j (a, z))
  | [], [], _, _ => by simp [EntK]
  | _ :: _, _ :: _, 0, ⟨h1, h2, h3⟩ => ⟨⟨rfl, ha⟩, hv, h3⟩
  | _ :: _, _ :: _, j + 1, ⟨h1, h2, h3⟩ => ⟨h1, h2, EntK.set ha hv j h3⟩
  | [], _ :: _, _, h => h.elim
  | _ :: _, [], _, h => h.elim
theorem EntK.erase {M : List Nat} {w : World} : ∀ {es : List MapEntry} {xs : List (κ × α)} (j : Nat), EntK K E ag M w es xs → EntK K E ag M w (es.eraseIdx j) (xs.eraseIdx j)
  | [], [], _, _ => by simp [EntK]
  | _ :: _, _ :: _, 0, ⟨_, _, h3⟩ => h3
  | _ :: _, _ :: _, j + 1, ⟨h1, h2, h3⟩ => ⟨h1, h2, EntK.erase j h3⟩
  | [], _ :: _, _, h => h.elim
  | _ :: _, [], _, h => h.elim
/-- What a block that is a map holds. -/
def MapH (K : Ky P kt κ) (E : Enc α) (ag : Bool) (M : List Nat) (w : World) (b : Nat) (f : FMap κ α) : Prop :=
  ∃ es c xs, w.heap[b]? = some (.map es c) ∧ Stp es c ∧ EntK K E ag M w es.toList xs ∧ Lists f xs
/-- A map of one's own. -/
def mapO (K : Ky P kt κ) (E : Enc α) (ag : Bool) (b : Nat) (f : FMap κ α) : Res where
  fp := [b]
  mu := []
  holds := fun M w => MapH K E ag M w b f
  adv := fun ha hb h => by
    obtain ⟨es, c, xs, h1, h2, h3, h4⟩ := h
    exact ⟨es, c, xs, (hb b (by simp)).trans h1, h2, h3.adv ha, h4⟩
  lt := fun h x hx => by
    obtain ⟨es, c, xs, h1, _⟩ := h
    have : x = b := by simpa using hx
    subst this; exact heap_lt h1
/-- A map that is read. -/
def RdF (K : Ky P kt κ) (E : Enc α) (ag : Bool) (M : List Nat) (w : World) (v : Value) (f : FMap κ α) : Prop := ∃ b, v = .map (some b) ∧ b ∉ M ∧ MapH K E ag M w b f
theorem RdF.adv {M M' : List Nat} {w w' : World} {v : Value} {f : FMap κ α} (h : RdF K E ag M w v f) (ha : Adv M M' w w') : RdF K E ag M' w' v f := by
  obtain ⟨b, rfl, hb, es, c, xs, h1, h2, h3, h4⟩ := h
  have hlt := heap_lt h1
  exact ⟨b, rfl, fun hb' => (ha.new b hb').elim hb (fun h => absurd hlt (by omega)), es, c, xs, (ha.kp.block b hlt hb).trans h1, h2, h3.adv ha, h4⟩
theorem RdF.oneC {M : List Nat} {w : World} {v : Value} {f : FMap κ α} (h : RdF K E ag M w v f) : v.oneCell' = true := by
  obtain ⟨b, rfl, _⟩ := h; rfl
variable {N : Nat} {ops : Array Oper} {q : Md} {rest : List Oper} {ds : List Deferred} {L : Env} {w w0 : World} {A B : Out} {X : Nat → Out} {Z : List PanicEntry → Out} {d : Nat} {ty : TypeId} {pos : String} {af : Array Edge} {Mu M : List Nat} {σ : List Res}
theorem Hp.mapAt' {b : Nat} {f : FMap κ α} (h : Hp w0 Mu M σ w) (i : Nat) (hi : σ[i]? = some (mapO K E ag b f)) : MapH K E ag (mm σ M) w b f := h.get i hi
theorem MapH.lookup {b : Nat} {f : FMap κ α} {t e : TypeId} {a : κ} {z0 : α} {zv : Value} (h : MapH K E ag M w b f) (ha : K.ok a) (ht : P.underlying t = some (.map kt e)) (hz : ∀ w, (zeroValue e).run P w = .ok zv w) (hzR : Vl E ag M w zv z0) :
    ∃ v, (∀ cm w', w'.heap[b]? = w.heap[b]? → (Instr.lookup t (.map (some b)) (K.val a) cm).run P w' = .ok (if cm then .tuple #[v, .bool (f a).isSome] else v) w') ∧ Vl E ag M w v ((f a).getD z0) := by
  obtain ⟨es, c, xs, h1, h2, h3, h4⟩ := h
  rcases K.find ha es.toList h3.keys with ⟨g1, g2⟩ | ⟨j, e', g1, g2, g3⟩
  · have hf : f a = none := h4.none fun x hx he => by
      obtain ⟨e', h5, h6⟩ := h3.back x hx
      exact g2 e' h5 (by rw [h6, he])
    refine ⟨zv, fun cm w' hw => ?_, by rw [hf]; exact hzR⟩
    have h1 := hw.trans h1
    cases cm <;> simp [Instr.lookup, run_underlying ht, MapKept.run_getObj_map h1, K.check ha, g1, hz, hf]
  · obtain ⟨x, hx, hk, hok, hv⟩ := h3.at g2
    have hxa : x.1 = a := K.inj hok ha (by rw [← hk, g3])
    have hf : f a = some x.2 := (h4.2 a x.2).1 (by rw [← hxa]; exact List.mem_of_getElem? hx)
    refine ⟨e'.val, fun cm w' hw => ?_, by rw [hf]; exact hv⟩
    have h1 := hw.trans h1
    cases cm <;> simp [Instr.lookup, run_underlying ht, MapKept.run_getObj_map h1, K.check ha, g1, hf]
/-- A map that is made. -/
theorem y_mkF (K : Ky P kt κ) (E : Enc α) (ag : Bool) {t : TypeId} (hI : Hp w0 Mu M σ w) (hN : Nat.blt d N = true)
    (h : ∀ b w', Hp w0 Mu M (mapO K E ag b fnone :: σ) w' → Adv (mm σ M) (mm (mapO K E ag b fnone :: σ) M) w w' → Reg P N ops .seq rest ds ((d, .map (some b)) :: L) w' A B X Z) :
    Reg P N ops .seq (⟨some d, .makeMap t none, ty, pos, af, none⟩ :: rest) ds L w A B X Z := by
  have hx : Ext w (w.alloc (.map #[] 0)) := Kp.alloc _ _ _
  have hn : ∀ b ∈ (mapO K E ag w.heap.size fnone).fp, w.heap.size ≤ b ∧ b < (w.alloc (.map #[] 0)).heap.size := fun b hb => by
    have : b = w.heap.size := by simpa [mapO] using hb
    subst this; exact ⟨Nat.le_refl _, by show w.heap.size < (w.heap.push _).size; simp⟩
  refine Reg.eff (.map (some w.heap.size)) (w.alloc (.map #[] 0)) rfl rfl hN (fun a ha => ?_) (h _ _ (hI.add hx hn rfl ⟨#[], 0, [], heap_alloc_new w _, ⟨by simp, fun x hx => by simp at hx⟩, trivial, Lists.nil⟩) (hI.addA hx hn))
  have hr : (Instr.makeMap t none).run P w = .ok (.map (some w.heap.size)) (w.alloc (.map #[] 0)) := rfl
  simp [execOp, hr]
theorem Kp.setB {b : Nat} {o o' : Obj} (h1 : w.heap[b]? = some o) : Kp [b] w (setBlock w b o') :=
  ⟨rfl, rfl, rfl, by simp [setBlock], fun j hj hm => (MapKept.heap_set (o' := o') h1).2 j (by simpa using hm), fun _ => Nat.le_refl _⟩
variable [DecidableEq κ]
/-- An entry laid. -/
theorem y_upF (i : Nat) {b : Nat} {f : FMap κ α} {z : α} {v : Value} {x y u : Operand} {t e : TypeId} {a : κ} (hI : Hp w0 Mu M σ w) (hi : σ[i]? = some (mapO K E ag b f))
    (hx : ev L x = some (.map (some b))) (hy : ev L y = some (K.val a)) (ha : K.ok a) (hu : ev L u = some v) (hv : Vl E ag (mm σ M) w v z) (ht : P.underlying t = some (.map kt e))
    (h : ∀ w', Hp w0 Mu M (σ.set i (mapO K E ag b (fput f a z))) w' → Adv (mm σ M) (mm (σ.set i (mapO K E ag b (fput f a z))) M) w w' → Reg P N ops .seq rest ds L w' A B X Z) :
    Reg P N ops .seq (⟨none, .mapUpdate t x y u, ty, pos, af, none⟩ :: rest) ds L w A B X Z := by
  obtain ⟨es, c, xs, h1, h2, h3, h4⟩ := hI.mapAt' i hi
  have key' : ∃ es' c' xs', (Instr.mapUpdate t (.map (some b)) (K.val a) v).run P w = .ok () (setBlock w b (.map es' c')) ∧ Stp es' c' ∧ EntK K E ag (mm σ M) w es'.toList xs' ∧ Lists (fput f a z) xs' := by
    rcases K.find ha es.toList h3.keys with ⟨g1, g2⟩ | ⟨j, e', g1, g2, g3⟩
    · refine ⟨es.push ⟨K.val a, v, c⟩, c + 1, xs ++ [(a, z)], ?_, ⟨?_, fun x hx => ?_⟩, ?_, h4.push z fun x hx he => ?_⟩
      · simp [Instr.mapUpdate, run_underlying ht, MapKept.run_getObj_map h1, K.check ha, g1, MapKept.run_setObj_map _ h1, Result.andThen, setBlock]
      · rw [Array.toList_push, List.map_append, List.nodup_append]
        refine ⟨h2.1, by simp, fun x hx y hy => ?_⟩
        obtain ⟨p, hp, rfl⟩ := List.mem_map.1 hx
        have := h2.2 p hp
        have : y = c := by simpa using hy
        omega
      · rw [Array.toList_push, List.mem_append] at hx
        rcases hx with hx | hx
        · have := h2.2 x hx; omega
        · have : x = ⟨K.val a, v, c⟩ := by simpa using hx
          subst this; exact Nat.lt_succ_self c
      · rw [Array.toList_push]; exact h3.push ha hv
      · obtain ⟨e', h5, h6⟩ := h3.back x hx
        exact g2 e' h5 (by rw [h6, he])
    · obtain ⟨x', hx', hk, hok, hv'⟩ := h3.at g2
      have hxa : x'.1 = a := K.inj hok ha (by rw [← hk, g3])
      have g4 : es[j]? = some e' := by simpa using g2
      refine ⟨es.modify j fun e => { e with key := K.val a, val := v }, c, xs.set j (a, z), ?_, ⟨?_, fun x hx => ?_⟩, ?_, h4.set (y := x'.2) (by rw [hx', ← hxa]) z⟩
      · simp [Instr.mapUpdate, run_underlying ht, MapKept.run_getObj_map h1, K.check ha, g1, g4, g3, K.stays ha, MapKept.run_setObj_map _ h1, Result.andThen, setBlock]
      · have : ((es.modify j fun e => { e with key := K.val a, val := v }).toList.map (·.born)) = es.toList.map (·.born) := by
          rw [Array.toList_modify]
          refine List.ext_getElem? fun i => ?_
          simp only [List.getElem?_map, List.getElem?_modify]
          by_cases e : j = i
          · subst e; cases es.toList[j]? <;> simp
          · simp [e]
        rw [this]; exact h2.1
      · rw [Array.toList_modify] at hx
        obtain ⟨m, hm⟩ := List.getElem?_of_mem hx
        rw [List.getElem?_modify] at hm
        cases hq : es.toList[m]? with
        | none => rw [hq] at hm; cases hm
        | some e0 =>
          rw [hq] at hm
          have := h2.2 e0 (List.mem_of_getElem? hq)
          by_cases e : j = m
          · simp [e] at hm; subst hm; exact this
          · simp [e] at hm; subst hm; exact this
      · rw [Array.toList_modify]; exact h3.set ha hv j
  obtain ⟨es', c', xs', hr, hS, hE, hL⟩ := key'
  have hkp : Kp [b] w (setBlock w b (.map es' c')) := Kp.setB h1
  have hn : ∀ b' ∈ (mapO K E ag b (fput f a z)).fp, b' ∈ (mapO K E ag b f).fp ∨ w.heap.size ≤ b' := fun b' hb => .inl hb
  refine Reg.sto (setBlock w b (.map es' c')) rfl rfl (fun A hA => ?_) (h _ (hI.upd i hi hkp hn rfl fun M' hM' => ⟨es', c', xs', (MapKept.heap_set h1).1, hS, ?_, hL⟩) (hI.updA (r' := mapO K E ag b (fput f a z)) i hi hkp hn))
  · simp [execOp, hA.eval hx, hA.eval hy, hA.eval hu, hr]
  · have hb : b ∈ mm σ M := mem_mm.2 (.inl ⟨_, List.mem_of_getElem? hi, by simp [mapO]⟩)
    refine (hE.adv ⟨hkp.mono fun x hx => .inl ?_, fun x hx => .inl hx⟩).mon fun x hx => .inl ?_
    · have : x = b := by simpa using hx
      subst this; exact hb
    · rcases hM' x hx with h9 | h9
      · have : x = b := by simpa [mapO] using h9
        subst this; exact hb
      · exact h9
/-- An entry struck. -/
theorem y_dlF (i : Nat) {b : Nat} {f : FMap κ α} {x y : Operand} {t kt' e : TypeId} {a : κ} (hI : Hp w0 Mu M σ w) (hi : σ[i]? = some (mapO K E ag b f))
    (hx : ev L x = some (.map (some b))) (hy : ev L y = some (K.val a)) (ha : K.ok a) (ht : P.underlying t = some (.map kt e))
    (h : ∀ w', Hp w0 Mu M (σ.set i (mapO K E ag b (fdel f a))) w' → Adv (mm σ M) (mm (σ.set i (mapO K E ag b (fdel f a))) M) w w' → Reg P N ops .seq rest ds L w' A B X Z) :
    Reg P N ops .seq (⟨none, .call ⟨.builtin .delete, #[x, y], #[t, kt']⟩, ty, pos, af, none⟩ :: rest) ds L w A B X Z := by
  obtain ⟨es, c, xs, h1, h2, h3, h4⟩ := hI.mapAt' i hi
  have key' : ∃ es' xs', (∀ ty, (Builtin.delete_ #[t, kt'] ty #[.map (some b), K.val a]).run P w = .ok (.tuple #[]) (setBlock w b (.map es' c))) ∧ Stp es' c ∧ EntK K E ag (mm σ M) w es'.toList xs' ∧ Lists (fdel f a) xs' := by
    rcases K.find ha es.toList h3.keys with ⟨g1, g2⟩ | ⟨j, e', g1, g2, g3⟩
    · refine ⟨es, xs, fun ty => ?_, h2, h3, h4.del0 fun x hx he => ?_⟩
      · simp [Builtin.delete_, run_underlying ht, MapKept.run_getObj_map h1, K.check ha, g1, MapKept.run_setObj_map _ h1, Result.andThen, setBlock]
      · obtain ⟨e', h5, h6⟩ := h3.back x hx
        exact g2 e' h5 (by rw [h6, he])
    · obtain ⟨x', hx', hk, hok, hv'⟩ := h3.at g2
      have hxa : x'.1 = a := K.inj hok ha (by rw [← hk, g3])
      have hlt : j < es.size := by
        rcases Nat.lt_or_ge j es.toList.length with h | h
        · simpa using h
        · rw [List.getElem?_eq_none h] at g2; cases g2
      have hel : (es.eraseIdxIfInBounds j).toList = es.toList.eraseIdx j := by simp [Array.eraseIdxIfInBounds, hlt]
      refine ⟨es.eraseIdxIfInBounds j, xs.eraseIdx j, fun ty => ?_, ⟨?_, fun x hx => ?_⟩, ?_, h4.del (y := x'.2) (by rw [hx', ← hxa])⟩
      · simp [Builtin.delete_, run_underlying ht, MapKept.run_getObj_map h1, K.check ha, g1, MapKept.run_setObj_map _ h1, Result.andThen, setBlock]
      · rw [hel]; exact (List.Sublist.map _ (List.eraseIdx_sublist _ j)).nodup h2.1
      · rw [hel] at hx; exact h2.2 x ((List.eraseIdx_sublist _ j).subset hx)
      · rw [hel]; exact h3.erase j
  obtain ⟨es', xs', hr, hS, hE, hL⟩ := key'
  have hkp : Kp [b] w (setBlock w b (.map es' c)) := Kp.setB h1
  have hn : ∀ b' ∈ (mapO K E ag b (fdel f a)).fp, b' ∈ (mapO K E ag b f).fp ∨ w.heap.size ≤ b' := fun b' hb => .inl hb
  refine Reg.eff0 (.tuple #[]) (setBlock w b (.map es' c)) rfl rfl (fun A hA => ?_) (h _ (hI.upd i hi hkp hn rfl fun M' hM' => ⟨es', c, xs', (MapKept.heap_set h1).1, hS, ?_, hL⟩) (hI.updA (r' := mapO K E ag b (fdel f a)) i hi hkp hn))
  · simp [execOp, resolve, invoke, builtin, hA.eval hx, hA.eval hy, hr]
  · have hb : b ∈ mm σ M := mem_mm.2 (.inl ⟨_, List.mem_of_getElem? hi, by simp [mapO]⟩)
    refine (hE.adv ⟨hkp.mono fun x hx => .inl ?_, fun x hx => .inl hx⟩).mon fun x hx => .inl ?_
    · have : x = b := by simpa using hx
      subst this; exact hb
    · rcases hM' x hx with h9 | h9
      · have : x = b := by simpa [mapO] using h9
        subst this; exact hb
      · exact h9
end
end Go.Sx
namespace Go.Sx
open Go Go.RowKit
variable [Trk]
/-- What types are: the fields of structs (their offsets and types); how many cells an aggregate has, by one more, or 0 for a type of one cell. -/
structure Tb where
  st : List (Nat × List (Nat × Nat))
  ag : List (Nat × Nat)
def lk {α : Type} : List (Nat × α) → Nat → Option α
  | [], _ => none
  | (k, v) :: r, t => bif Nat.beq k t then some v else lk r t
def nth {α : Type} : List α → Nat → Option α
  | [], _ => none
  | x :: _, 0 => some x
  | _ :: r, n + 1 => nth r n
theorem nth_eq {α : Type} : ∀ (l : List α) (i : Nat), nth l i = l[i]?
  | [], _ => rfl
  | _ :: _, 0 => rfl
  | _ :: l, n + 1 => nth_eq l n
def FlOk (P : Program) (fields : Array Field) : Nat → List (Nat × Nat) → Prop
  | _, [] => True
  | i, (o, t) :: r => (∃ fl m, fields[i]? = some fl ∧ fl.offset = o ∧ fl.type = t ∧ ∀ w, (sizeOf t).run P w = .ok (m + 1) w) ∧ FlOk P fields (i + 1) r
def StOk (P : Program) : List (Nat × List (Nat × Nat)) → Prop
  | [] => True
  | (s, l) :: r => (∃ fields : Array Field, P.underlying s = some (.struct fields) ∧ FlOk P fields 0 l) ∧ StOk P r
def AgOk (P : Program) : List (Nat × Nat) → Prop
  | [] => True
  | (t, 0) :: r => (∀ w, (isAgg t).run P w = .ok false w) ∧ AgOk P r
  | (t, n + 1) :: r => ((∀ w, (isAgg t).run P w = .ok true w) ∧ ∀ w, (sizeOf t).run P w = .ok n w) ∧ AgOk P r
theorem FlOk.at {P : Program} {fields : Array Field} : ∀ {l : List (Nat × Nat)} {i f o t : Nat}, FlOk P fields i l → nth l f = some (o, t) → ∃ fl m, fields[i + f]? = some fl ∧ fl.offset = o ∧ fl.type = t ∧ ∀ w, (sizeOf t).run P w = .ok (m + 1) w
  | [], _, _, _, _, _, h => by cases h
  | (_, _) :: _, _, 0, _, _, h, e => by cases e; exact h.1
  | (_, _) :: r, i, f + 1, _, _, h, e => by
    have := FlOk.at (f := f) h.2 e
    rwa [show i + 1 + f = i + (f + 1) by omega] at this
theorem StOk.at {P : Program} : ∀ {l : List (Nat × List (Nat × Nat))} {s : Nat} {fl : List (Nat × Nat)}, StOk P l → lk l s = some fl → ∃ fields : Array Field, P.underlying s = some (.struct fields) ∧ FlOk P fields 0 fl
  | [], _, _, _, h => by cases h
  | (k, _) :: r, s, _, h, e => by
    simp only [lk] at e
    cases hb : Nat.beq k s with
    | true => rw [hb] at e; cases e; cases Nat.eq_of_beq_eq_true hb; exact h.1
    | false => rw [hb] at e; exact StOk.at h.2 e
theorem AgOk.at0 {P : Program} : ∀ {l : List (Nat × Nat)} {t : Nat}, AgOk P l → lk l t = some 0 → ∀ w, (isAgg t).run P w = .ok false w
  | [], _, _, h => by cases h
  | (k, z) :: r, t, h, e => by
    simp only [lk] at e
    have hr : AgOk P r := by cases z <;> exact h.2
    cases hb : Nat.beq k t with
    | true => rw [hb] at e; cases e; cases Nat.eq_of_beq_eq_true hb; exact h.1
    | false => rw [hb] at e; exact AgOk.at0 hr e
theorem AgOk.at1 {P : Program} : ∀ {l : List (Nat × Nat)} {t n : Nat}, AgOk P l → lk l t = some (n + 1) → (∀ w, (isAgg t).run P w = .ok true w) ∧ ∀ w, (sizeOf t).run P w = .ok n w
  | [], _, _, _, h => by cases h
  | (k, z) :: r, t, n, h, e => by
    simp only [lk] at e
    have hr : AgOk P r := by cases z <;> exact h.2
    cases hb : Nat.beq k t with
    | true => rw [hb] at e; cases e; cases Nat.eq_of_beq_eq_true hb; exact h.1
    | false => rw [hb] at e; exact AgOk.at1 hr e
def kEq : IntKind → IntKind → Bool
  | .i8, .i8 | .i16, .i16 | .i32, .i32 | .i64, .i64 | .u8, .u8 | .u16, .u16 | .u32, .u32 | .u64, .u64 => true
  | _, _ => false
theorem kEq_eq {a b : IntKind} (h : kEq a b = true) : a = b := by cases a <;> cases b <;> first | rfl | cases h
/-! Short ways. -/
end Go.Sx
namespace Go.Rx
open Go Go.Sx Go.RowKit
/-- Types of data. -/
inductive Ty where
  | int (k : IntKind)
  | bool
  | sl (t : Ty)
  | st (n : Nat)
  | arr (k : IntKind) (n : Nat)
  | mp (m : Nat) (k v : Ty)
  deriving DecidableEq
/-- Structures: what they are. -/
class Sg where
  S : Nat → Type
section
variable [Sg]
def den : Ty → Type
  | .int _ => Int
  | .bool => Bool
  | .sl t => List (den t)
  | .st n => Sg.S n
  | .arr _ _ => List Int
  | .mp _ k v => FMap (den k) (den v)
def tupT : List Ty → Type
  | [] => Unit
  | [t] => den t
  | t :: u :: l => den t × tupT (u :: l)
end
def Ty.leaf : Ty → Bool
  | .st _ => false
  | _ => true
def leaves : List Ty → Bool
  | [] => true
  | t :: l => t.leaf && leaves l
/-- Structures: their parts. -/
class Sf [Sg] where
  ft : Nat → List Ty
  un : (n : Nat) → Sg.S n → tupT (ft n)
  mkS : (n : Nat) → tupT (ft n) → Sg.S n
  un_mk : ∀ n x, un n (mkS n x) = x
  eq : (n : Nat) → Sg.S n → Sg.S n → Bool
  dec : (n : Nat) → DecidableEq (Sg.S n)
  leaf : ∀ n, leaves (ft n) = true
  nm : Nat → Bool
variable [Sg] [Sf]
open Classical in
noncomputable def denDec : (t : Ty) → DecidableEq (den t)
  | .int _ => inferInstanceAs (DecidableEq Int)
  | .bool => inferInstanceAs (DecidableEq Bool)
  | .st n => Sf.dec n
  | .arr _ _ => inferInstanceAs (DecidableEq (List Int))
  | .sl t => fun _ _ => propDecidable _
  | .mp _ _ _ => fun _ _ => propDecidable _
/-- Functions as data. -/
def denF : List Ty → Ty → Type
  | [], r => Option (den r)
  | t :: l, r => den t → denF l r
/-- What is known of a value. -/
inductive SV where
  | int (k : IntKind) (x : Int)
  | bool (b : Bool)
  | dat (t : Ty) (x : den t)
  | str (n : Nat) (x : Sg.S n)
  | ary (k : IntKind) (n : Nat) (x : List Int)
  | agg (l : List SV)
  | own (i : Nat)
  | ptr (i o : Nat)
  | ep (i : Nat) (t : Ty) (x : Int) (z : Option (den t)) (o : Nat)
  | rp (s : SV) (o : Nat)
  | fv (a : List Ty) (r : Ty) (f : denF a r)
  | fn (g : Nat) (caps : List SV)
  | nilS
  | raw (v : Value)
  | it (ts : List Ty) (xs : List (tupT ts))
  | np (t : Ty) (x : Option (den t))
  | ap (s : SV) (n : Nat) (x : Int) (k : Nat)
  | undef
  | dead
  | tup (l : List SV)
def castD (t t' : Ty) (x : den t) : Option (den t') := if h : t = t' then some (h ▸ x) else none
def castS (n n' : Nat) (x : Sg.S n) : Option (Sg.S n') := if h : n = n' then some (h ▸ x) else none
def ofD : (t : Ty) → den t → SV
  | .int k, x => .int k x
  | .bool, x => .bool x
  | .sl t, x => .dat (.sl t) x
  | .st n, x => .str n x
  | .arr k n, x => .ary k n x
  | .mp m k v, x => .dat (.mp m k v) x
def ofL : (l : List Ty) → tupT l → List SV
  | [], _ => []
  | [t], x => [ofD t x]
  | t :: u :: l, x => ofD t x.1 :: ofL (u :: l) x.2
def flds (n : Nat) (x : Sg.S n) : List SV := ofL (Sf.ft n) (Sf.un n x)
/-- What is owned: a slice (of which type its cells are), a map. -/
inductive Oc where
  | sl (e : Nat) (t : Ty)
  | mp (m : Nat) (k v : Ty)
  deriving DecidableEq
def Oc.ty : Oc → Ty
  | .sl _ t => .sl t
  | .mp m k v => .mp m k v
def castO (c c' : Oc) (x : den c.ty) : Option (den c'.ty) := if h : c = c' then some (h ▸ x) else none
inductive AR where
  | own (p : Bool) (c : Oc) (x : den c.ty)
  | row (e : Nat) (l : List SV)
def fnd {α : Type} : List (Nat × α) → Nat → Option α
  | [], _ => none
  | (k, v) :: r, t => bif Nat.beq k t then some v else fnd r t
/-- Data of one cell, or of an array. -/
def toD1 (R : Nat → Option AR) : (t : Ty) → SV → Option (den t)
  | .int k, s => match s with
    | .int k' x => match kEq k' k with
      | true => some x
      | false => none
    | _ => none
  | .bool, s => match s with
    | .bool b => some b
    | _ => none
  | .sl t, s => match s with
    | .dat t' x => castD t' (.sl t) x
    | .nilS => some []
    | .own i => match R i with
      | some (.own _ c xs) => castD c.ty (.sl t) xs
      | _ => none
    | _ => none
  | .st _, _ => none
  | .arr k n, s => match s with
    | .ary k' n' x => match kEq k' k with
      | true => match Nat.beq n' n with
        | true => some x
        | false => none
      | false => none
    | _ => none
  | .mp m k v, s => match s with
    | .dat t' x => castD t' (.mp m k v) x
    | .own i => match R i with
      | some (.own _ c xs) => castD c.ty (.mp m k v) xs
      | _ => none
    | _ => none
def toL (R : Nat → Option AR) : (l : List Ty) → List SV → Option (tupT l)
  | [], _ => none
  | [t], ss => match ss with
    | [s] => toD1 R t s
    | _ => none
  | t :: u :: l, ss => match ss with
    | s :: r => match toD1 R t s with
      | some x => match toL R (u :: l) r with
        | some y => some (x, y)
        | none => none
      | none => none
    | [] => none
def toD (R : Nat → Option AR) : (t : Ty) → SV → Option (den t)
  | .st n, s => match s with
    | .str n' x => castS n' n x
    | .agg l => match toL R (Sf.ft n) l with
      | some y => some (Sf.mkS n y)
      | none => none
    | _ => none
  | t, s => toD1 R t s
/-- What stands in the place of what is gone. -/
inductive Rp where
  | dead
  | dat (t : Ty) (x : den t)
  | rp (l : List SV)
mutual
def subS (i : Nat) (p : Rp) : SV → SV
  | .own j => match Nat.beq i j with
    | true => match p with
      | .dat t x => .dat t x
      | _ => .dead
    | false => .own j
  | .ptr j o => match Nat.beq i j with
    | true => match p with
      | .rp l => .rp (.agg l) o
      | _ => .dead
    | false => .ptr j o
  | .ep j t x z o => match Nat.beq i j with
    | true => .dead
    | false => .ep j t x z o
  | .agg l => .agg (subL i p l)
  | .tup l => .tup (subL i p l)
  | .rp s o => .rp (subS i p s) o
  | .ap s n x k => .ap (subS i p s) n x k
  | .fn g l => .fn g (subL i p l)
  | .int k x => .int k x
  | .bool b => .bool b
  | .dat t x => .dat t x
  | .str n x => .str n x
  | .ary k n x => .ary k n x
  | .fv a r f => .fv a r f
  | .nilS => .nilS
  | .raw v => .raw v
  | .it ts xs => .it ts xs
  | .np t x => .np t x
  | .undef => .undef
  | .dead => .dead
def subL (i : Nat) (p : Rp) : List SV → List SV
  | [] => []
  | s :: l => subS i p s :: subL i p l
end
mutual
/-- What was known of an element is old. -/
def oldS (i : Nat) : SV → SV
  | .ep j t x z o => match Nat.beq i j with
    | true => .ep j t x none o
    | false => .ep j t x z o
  | .agg l => .agg (oldL i l)
  | .tup l => .tup (oldL i l)
  | .rp s o => .rp (oldS i s) o
  | .ap s n x k => .ap (oldS i s) n x k
  | .fn g l => .fn g (oldL i l)
  | .int k x => .int k x
  | .bool b => .bool b
  | .dat t x => .dat t x
  | .str n x => .str n x
  | .ary k n x => .ary k n x
  | .own j => .own j
  | .ptr j o => .ptr j o
  | .fv a r f => .fv a r f
  | .nilS => .nilS
  | .raw v => .raw v
  | .it ts xs => .it ts xs
  | .np t x => .np t x
  | .undef => .undef
  | .dead => .dead
def oldL (i : Nat) : List SV → List SV
  | [] => []
  | s :: l => oldS i s :: oldL i l
end
def oldE (i : Nat) : List (Nat × SV) → List (Nat × SV)
  | [] => []
  | (t, s) :: r => (t, oldS i s) :: oldE i r
def subE (i : Nat) (p : Rp) : List (Nat × SV) → List (Nat × SV)
  | [] => []
  | (t, s) :: r => (t, subS i p s) :: subE i p r
def AR.sub (i : Nat) (p : Rp) : AR → AR
  | .row e l => .row e (subL i p l)
  | .own p c xs => .own p c xs
def subR (i : Nat) (p : Rp) : List (Nat × AR) → List (Nat × AR)
  | [] => []
  | (t, a) :: r => (t, a.sub i p) :: subR i p r
/-- What is known at a place of the code: slots; what is owned; what was given up; what was written. -/
structure AS where
  env : List (Nat × SV)
  res : List (Nat × AR)
  kl : List Nat
  ch : List (Nat × Nat)
/-- What an operation does. -/
inductive Ac where
  | put (s : SV)
  | new (i : Nat) (r : AR)
  | sto (i o : Nat) (ns : List SV)
  | cnt (i : Nat) (c : Oc) (x : den c.ty)
  | hnd (i : Nat) (r : AR)
  | del (i : Nat) (p : Rp)
def AR.old (i : Nat) : AR → AR
  | .row e l => .row e (oldL i l)
  | .own p c xs => .own p c xs
def rset (i : Nat) (a : AR) : List (Nat × AR) → List (Nat × AR)
  | [] => []
  | (t, b) :: r => bif Nat.beq t i then (t, a) :: rset i a r else (t, b) :: rset i a r
def rdel (i : Nat) : List (Nat × AR) → List (Nat × AR)
  | [] => []
  | (t, b) :: r => bif Nat.beq t i then rdel i r else (t, b) :: rdel i r
def logC (i : Nat) : List Nat → List (Nat × Nat) → List (Nat × Nat)
  | [], l => l
  | c :: r, l => (i, c) :: logC i r l
/-- What is carried. -/
inductive Ck where
  | d (t : Ty)
  | own (c : Oc)
  | undef
  | it (ts : List Ty)
  | np (t : Ty)
  deriving DecidableEq
def Ck.den : Ck → Type
  | .d t => Rx.den t
  | .own c => Rx.den c.ty
  | .undef => Unit
  | .it ts => List (tupT ts)
  | .np t => Option (Rx.den t)
def denK : List Ck → Type
  | [] => Unit
  | [c] => c.den
  | c :: d :: l => c.den × denK (d :: l)
/-- What functions take: data, a pointer to data that stay, a function; a pointer to a variable that holds a pointer, which may be nil; a pointer to a variable that holds a closure of a known function. -/
inductive Pt where
  | d (t : Ty)
  | pt (t : Ty)
  | fn (a : List Ty) (r : Ty)
  | pp (t : Ty)
  | cl (g : Nat) (cs : List (Bool × Ty))
  | nl
  deriving DecidableEq
def denB : Bool → Ty → Type
  | false, t => Rx.den t
  | true, t => Option (Rx.den t)
def denBs : List (Bool × Ty) → Type
  | [] => Unit
  | (b, t) :: l => denB b t × denBs l
def Pt.den : Pt → Type
  | .d t => Rx.den t
  | .pt t => Rx.den t
  | .fn a r => denF a r
  | .pp t => Option (Rx.den t)
  | .cl _ cs => denBs cs
  | .nl => Unit
def denP : List Pt → Type
  | [] => Unit
  | p :: l => p.den × denP l
structure Ctr where
  ps : List Pt
  rs : List Ck
  F : denP ps → Option (denK rs)
/-- What a function throws. -/
structure CtrP where
  ps : List Pt
  t : Ty
  T : TypeId
  F : denP ps → Option (den t)
/-- What a function does that changes one thing that it is handed: the others; where it stands; what it is. -/
structure CtrM where
  ps : List Pt
  i : Nat
  c : Oc
  rs : List Ck
  F : denP ps → den c.ty → Option (denK rs × den c.ty)
/-- What types are, and functions: fields; cells of aggregates; slices (elements: their type, what they are, their bytes); sizes; data; functions; structures' parts: where they lie, how wide they are. -/
structure Gx where
  tb : Tb
  sl : List (Nat × Nat × Ty × Nat)
  sz : List (Nat × Nat)
  ty : List (Nat × Ty)
  fs : List (Nat × Ctr)
  bd : List (Nat × List (Nat × Nat))
  eq : List (Nat × Nat)
  mp : List (Nat × Nat × Nat × Ty × Ty)
  ar : List (Nat × Nat × Nat)
  pz : List (Nat × Nat)
  pf : List (Nat × CtrP)
  fm : List (Nat × CtrM)
/-- What is nil: a pointer, a function. -/
def nilV : Nat → Value
  | 0 => .pointer none
  | _ => .nilFunc
variable (G : Gx)
def inKB : IntKind → Int → Bool
  | .i64, x => decide (-9223372036854775808 ≤ x) && decide (x ≤ 9223372036854775807)
  | .u8, x => decide (0 ≤ x) && decide (x ≤ 255)
  | .u16, x => decide (0 ≤ x) && decide (x ≤ 65535)
  | .u32, x => decide (0 ≤ x) && decide (x ≤ 4294967295)
  | _, _ => false
def constS : Value → Option SV
  | .int k x => bif inKB k x then some (.int k x) else none
  | .bool b => some (.bool b)
  | .slice a n c => match a, n, c with
    | none, 0, 0 => some .nilS
    | _, _, _ => none
  | .map a => match a with
    | none => some (.raw (.map none))
    | some _ => none
  | .pointer a => match a with
    | none => some (.raw (.pointer none))
    | some _ => none
  | _ => none
def evS (env : List (Nat × SV)) : Operand → Option SV
  | .tmp t => fnd env t
  | .const v => constS v
  | .func g => some (.fn g [])
  | .global _ => none
def evL (E : Operand → Option SV) : List Operand → Option (List SV)
  | [] => some []
  | x :: l => match E x with
    | some s => match evL E l with
      | some r => some (s :: r)
      | none => none
    | none => none
/-- Cells: how many; of a value; one; some. -/
def wd : SV → Nat
  | .ary _ n _ => n
  | .str _ _ => 0
  | .agg _ => 0
  | .tup _ => 0
  | .undef => 0
  | _ => 1
def cellsOf : SV → List SV
  | .str n x => flds n x
  | .agg l => l
  | s => [s]
def cellAt : List SV → Nat → Option SV
  | [], _ => none
  | s :: l, o => match o with
    | 0 => some s
    | o + 1 => match wd s with
      | 0 => none
      | n + 1 => bif Nat.ble n o then cellAt l (o - n) else none
def widths : List SV → Option Nat
  | [] => some 0
  | s :: l => match wd s with
    | 0 => none
    | n + 1 => match widths l with
      | some m => some (n + 1 + m)
      | none => none
def dropW : List SV → Nat → Option (List SV)
  | l, 0 => some l
  | [], _ + 1 => none
  | s :: l, o + 1 => match wd s with
    | 0 => none
    | n + 1 => bif Nat.ble n o then dropW l (o - n) else none
def takeW : List SV → Nat → Option (List SV)
  | _, 0 => some []
  | [], _ + 1 => none
  | s :: l, o + 1 => match wd s with
    | 0 => none
    | n + 1 => match Nat.ble n o with
      | true => match takeW l (o - n) with
        | some r => some (s :: r)
        | none => none
      | false => none
/-- New cells, as wide as the old ones, from the front on. -/
def overL : List SV → List SV → Option (List SV)
  | l, [] => some l
  | [], _ :: _ => none
  | s :: l, n :: r => match Nat.beq (wd s) (wd n) with
    | true => match wd n with
      | 0 => none
      | _ + 1 => match overL l r with
        | some x => some (n :: x)
        | none => none
    | false => none
def setW : List SV → Nat → List SV → Option (List SV)
  | l, 0, ns => overL l ns
  | [], _ + 1, _ => none
  | s :: l, o + 1, ns => match wd s with
    | 0 => none
    | n + 1 => match Nat.ble n o with
      | true => match setW l (o - n) ns with
        | some r => some (s :: r)
        | none => none
      | false => none
/-- How many entries stand ahead of a cell. -/
def entry : List SV → Nat → Nat
  | _, 0 => 0
  | [], _ + 1 => 0
  | s :: l, o + 1 => match wd s with
    | 0 => 0
    | n + 1 => bif Nat.ble n o then entry l (o - n) + 1 else 0
/-- What is owned is otherwise now. -/
def stoR (o : Nat) (ns : List SV) : AR → AR
  | .row e l => match setW l o ns with
    | some l' => .row e l'
    | none => .row e l
  | a => a
def stoC (o : Nat) (ns : List SV) : Option AR → List Nat
  | some (.row _ l) => List.range' (entry l o + 1) ns.length
  | _ => []
def cntR (c : Oc) (x : den c.ty) : AR → AR
  | .own p c' y => match castO c c' x with
    | some z => .own p c' z
    | none => .own p c' y
  | a => a
def updR (i : Nat) (g : AR → AR) : List (Nat × AR) → List (Nat × AR)
  | [] => []
  | (t, b) :: r => (t, bif Nat.beq t i then g b else b.old i) :: updR i g r
def AS.upd (σ : AS) (i : Nat) (g : AR → AR) (c : List Nat) : AS := { σ with env := oldE i σ.env, res := updR i g σ.res, ch := logC i c σ.ch }
def Ac.app (d : Option Nat) (σ : AS) : Ac → AS
  | .put s => match d with
    | some d => { σ with env := (d, s) :: σ.env }
    | none => σ
  | .new i r => { σ with env := subE i .dead σ.env, res := (i, r) :: rdel i (subR i .dead σ.res), kl := i :: σ.kl }
  | .sto i o ns => σ.upd i (stoR o ns) (stoC o ns (fnd σ.res i))
  | .cnt i c x => σ.upd i (cntR c x) [0]
  | .hnd i r => { σ with env := subE i .dead σ.env, res := rset i r (subR i .dead σ.res), kl := i :: σ.kl }
  | .del i p => { σ with env := subE i p σ.env, res := rdel i (subR i p σ.res), kl := i :: σ.kl }
def apps (d : Option Nat) : List Ac → AS → AS
  | [], σ => σ
  | a :: l, σ => apps d l (a.app d σ)
/-- What is one cell; what is an aggregate. -/
def one : SV → Bool
  | .ary _ _ _ => false
  | .str _ _ => false
  | .agg _ => false
  | .tup _ => false
  | .undef => false
  | _ => true
def isAg : SV → Bool
  | .ary _ _ _ => true
  | .str _ _ => true
  | .agg _ => true
  | _ => false
/-- What may be written into a variable. -/
def stor : SV → Bool
  | .tup _ => false
  | .undef => false
  | .dead => false
  | .agg _ => false
  | .str _ _ => false
  | _ => true
def storL : List SV → Bool
  | [] => true
  | s :: l => stor s && storL l
mutual
def owns : SV → List Nat
  | .own i => [i]
  | .ptr i _ => [i]
  | .ep i _ _ _ _ => [i]
  | .agg l => ownsLL l
  | .tup l => ownsLL l
  | .fn _ l => ownsLL l
  | .rp s _ => owns s
  | .ap s _ _ _ => owns s
  | _ => []
def ownsLL : List SV → List Nat
  | [] => []
  | s :: l => owns s ++ ownsLL l
end
def ownsP : Rp → List Nat
  | .rp l => ownsLL l
  | _ => []
def ownsR : AR → List Nat
  | .row _ l => ownsLL l
  | _ => []
/-- What is read from now on. -/
def frz1 (R : Nat → Option AR) (i : Nat) : Option (List Ac) := match R i with
  | some (.own false c xs) => some [.del i (.dat c.ty xs)]
  | some (.own true _ _) => none
  | some (.row _ l) => match ownsLL l with
    | [] => some [.del i (.rp l)]
    | _ => none
  | none => none
def has (l : List Nat) (n : Nat) : Bool := match l with
  | [] => false
  | x :: r => bif Nat.beq x n then true else has r n
def frz (R : Nat → Option AR) : List Nat → Option (List Ac)
  | [] => some []
  | i :: l => bif has l i then frz R l else match frz1 R i with
    | some a => match frz R l with
      | some r => some (a ++ r)
      | none => none
    | none => none
def toP (R : Nat → Option AR) (t : Ty) (l : List SV) : Option (den t) := match t with
  | .st n => toD R (.st n) (.agg l)
  | t => match l with
    | [s] => toD R t s
    | _ => none
/-- A function's parameters behind its first ones. -/
def toPt (R : Nat → Option AR) (t : Ty) : SV → Option (den t)
  | .rp v o => match o with
    | 0 => toP R t (cellsOf v)
    | _ => none
  | .ptr i o => match o with
    | 0 => match R i with
      | some (.row _ c) => toP R t c
      | _ => none
    | _ => none
  | .np t' x => match x with
    | some y => castD t' t y
    | none => none
  | _ => none
/-- A variable that holds a pointer. -/
def toNp (R : Nat → Option AR) (t : Ty) : SV → Option (Option (den t))
  | .np t' x => if h : t' = t then some (h ▸ x) else none
  | .rp v o => match toPt R t (.rp v o) with
    | some x => some (some x)
    | none => none
  | .ptr i o => match toPt R t (.ptr i o) with
    | some x => some (some x)
    | none => none
  | _ => none
/-- What lies in a variable of one cell. -/
def boxS (R : Nat → Option AR) : SV → Option SV
  | .rp v o => match o, cellsOf v with
    | 0, [s] => some s
    | _, _ => none
  | .ptr i o => match o, R i with
    | 0, some (.row _ [s]) => some s
    | _, _ => none
  | _ => none
def toB (R : Nat → Option AR) : (b : Bool) → (t : Ty) → SV → Option (denB b t)
  | false, t, s => toPt R t s
  | true, t, s => match boxS R s with
    | some s' => toNp R t s'
    | none => none
def toBs (R : Nat → Option AR) : (cs : List (Bool × Ty)) → List SV → Option (denBs cs)
  | [], ss => match ss with
    | [] => some ()
    | _ => none
  | (b, t) :: cs, ss => match ss with
    | s :: l => match toB R b t s with
      | some x => match toBs R cs l with
        | some r => some (x, r)
        | none => none
      | none => none
    | [] => none
def toCl (R : Nat → Option AR) (g : Nat) (cs : List (Bool × Ty)) (s : SV) : Option (denBs cs) := match boxS R s with
  | some (.fn g' l) => match Nat.beq g' g with
    | true => toBs R cs l
    | false => none
  | _ => none
/-- What is captured. -/
def cap1 (R : Nat → Option AR) : (p : Pt) → SV → Option p.den
  | .pt t, s => toPt R t s
  | .pp t, s => toB R true t s
  | .cl g cs, s => toCl R g cs s
  | .d _, _ => none
  | .fn _ _, _ => none
  | .nl, _ => none
def capP (R : Nat → Option AR) : (ps : List Pt) → List SV → Option (denP ps)
  | [], ss => match ss with
    | [] => some ()
    | _ => none
  | p :: ps, ss => match ss with
    | s :: l => match cap1 R p s with
      | some x => match capP R ps l with
        | some r => some (x, r)
        | none => none
      | none => none
    | [] => none
def curry (r : Ty) : (a : List Ty) → (ps : List Pt) → denP ps → (denP (a.map Pt.d ++ ps) → Option (den r)) → denF a r
  | [], _, y, f => f y
  | _ :: a, ps, y, f => fun x => curry r a ps y (fun z => f (x, z))
/-- A closure as a function on data. -/
def mkClos (ps cps : List Pt) (rs : List Ck) (F : denP ps → Option (denK rs)) (y : denP cps) (a : List Ty) (r : Ty) : Option (denF a r) :=
  if h : ps = a.map Pt.d ++ cps ∧ rs = [.d r] then some (curry r a cps y (fun z => (show Option (denK [.d r]) from h.2 ▸ F (h.1 ▸ z)))) else none
def mkClos2 (R : Nat → Option AR) (ps cps : List Pt) (rs : List Ck) (F : denP ps → Option (denK rs)) (caps : List SV) (a : List Ty) (r : Ty) : Option (denF a r) := match capP R cps caps with
  | some y => mkClos ps cps rs F y a r
  | none => none
def closF (R : Nat → Option AR) (g : Nat) (caps : List SV) (a : List Ty) (r : Ty) : Option (denF a r) := match fnd G.fs g with
  | some c => mkClos2 R c.ps (c.ps.drop a.length) c.rs c.F caps a r
  | none => none
def castF (a a' : List Ty) (r r' : Ty) (f : denF a r) : Option (denF a' r') := if h : a = a' ∧ r = r' then some (h.1 ▸ h.2 ▸ f) else none
def arg1 (R : Nat → Option AR) : (p : Pt) → SV → Option p.den
  | .d t, s => toD R t s
  | .pt t, s => toPt R t s
  | .fn a r, s => match s with
    | .fv a' r' f => castF a' a r' r f
    | .fn g caps => closF G R g caps a r
    | _ => none
  | .pp t, s => toB R true t s
  | .cl g cs, s => toCl R g cs s
  | .nl, s => match s with
    | .nilS => some ()
    | _ => none
def argsD (R : Nat → Option AR) : (ps : List Pt) → List SV → Option (denP ps)
  | [], ss => match ss with
    | [] => some ()
    | _ => none
  | p :: ps, ss => match ss with
    | s :: l => match arg1 G R p s with
      | some x => match argsD R ps l with
        | some r => some (x, r)
        | none => none
      | none => none
    | [] => none
/-- What a call hands back. -/
def resC (id : Nat) : (c : Ck) → c.den → SV × List Ac
  | .d t, x => (ofD t x, [])
  | .own c, x => (.own id, [.new id (.own false c x)])
  | .undef, _ => (.undef, [])
  | .it ts, x => (.it ts x, [])
  | .np t, x => (.np t x, [])
def resS (id : Nat) : (rs : List Ck) → denK rs → List SV × List Ac
  | [], _ => ([], [])
  | [c], x => match resC id c x with
    | (s, a) => ([s], a)
  | c :: d :: l, x => match resC id c x.1 with
    | (s, a) => match resS (id + 100000) (d :: l) x.2 with
      | (ss, as_) => (s :: ss, a ++ as_)
def tupS : List SV → SV
  | [s] => s
  | l => .tup l
/-- Results that hold no memory. -/
def plainB : List Ck → Bool
  | [] => true
  | .d (.int _) :: l => plainB l
  | .d .bool :: l => plainB l
  | _ => false
def cmp (b : BinOp) (i j : Int) : Option Bool := match b with
  | .lss => some (decide (i < j))
  | .leq => some (decide (i ≤ j))
  | .gtr => some (decide (j < i))
  | .geq => some (decide (j ≤ i))
  | .eql => some (decide (i = j))
  | .neq => some (!decide (i = j))
  | _ => none
def listD (u : Ty) (R : Nat → Option AR) : List SV → Option (List (den u))
  | [] => some []
  | s :: l => match toD R u s with
    | some x => match listD u R l with
      | some r => some (x :: r)
      | none => none
    | none => none
/-- A call of a function that is known. -/
def callC (id : Nat) (R : Nat → Option AR) {Z : Type} (K : List Ac → Option Z) (g : Nat) (ss : List SV) : Option Z := match fnd G.fs g with
  | some c => match argsD G R c.ps ss with
    | some a => match (bif plainB c.rs then some [] else frz R (ownsLL ss)) with
      | some fz => Option.bind (c.F a) fun r => match resS id c.rs r with
        | (ss', as_) => K (fz ++ as_ ++ [.put (tupS ss')])
      | none => none
    | none => none
  | none => none
def callF (r : Ty) : (a : List Ty) → denF a r → (R : Nat → Option AR) → List SV → Option (Option (den r))
  | [], f, _, ss => match ss with
    | [] => some f
    | _ => none
  | t :: a, f, R, ss => match ss with
    | s :: l => match toD R t s with
      | some x => callF r a (f x) R l
      | none => none
    | [] => none
end Go.Rx
namespace Go.Sx
open Go Go.RowKit Go.ChangeMaps
variable [Trk]
/-- The entries that are still to come. -/
def remX {β : Type} (l : List (MapEntry × β)) (seen : Array Nat) : List β := (l.filter fun p => !seen.contains p.1.born).map (·.2)
theorem seen_push {seen : Array Nat} {n m : Nat} : (seen.push m).contains n = (seen.contains n || (n == m)) := by
  rw [Bool.eq_iff_iff]
  simp
theorem rem_cons {β : Type} {p : MapEntry × β} {seen : Array Nat} : ∀ {l : List (MapEntry × β)}, (l.map (·.1.born)).Nodup → p ∈ l → seen.contains p.1.born = false → (remX l seen).Perm (p.2 :: remX l (seen.push p.1.born))
  | [], _, h, _ => by cases h
  | q :: l, hn, h, hs => by
    rw [List.map_cons, List.nodup_cons] at hn
    have hc : ∀ n : Nat, (seen.push p.1.born).contains n = (seen.contains n || (n == p.1.born)) := fun n => seen_push
    by_cases e : q = p
    · subst e
      have hrest : remX l (seen.push q.1.born) = remX l seen := by
        unfold remX
        congr 1
        refine List.filter_congr fun x hx => ?_
        have : x.1.born ≠ q.1.born := fun e => hn.1 (e ▸ List.mem_map_of_mem (f := fun p : MapEntry × β => p.1.born) hx)
        rw [hc, beq_false_of_ne this, Bool.or_false]
      have h1 : remX (q :: l) seen = q.2 :: remX l seen := by simp only [remX, List.filter_cons, hs, Bool.not_false, if_true, List.map_cons]
      have h2 : remX (q :: l) (seen.push q.1.born) = remX l (seen.push q.1.born) := by
        simp only [remX, List.filter_cons, hc, beq_self_eq_true, Bool.or_true, Bool.not_true, Bool.false_eq_true, if_false]
      rw [h1, h2, hrest]
    · have hp : p ∈ l := (List.mem_cons.1 h).resolve_left fun e' => e e'.symm
      have ih := rem_cons hn.2 hp hs
      have hne : q.1.born ≠ p.1.born := fun e => hn.1 (e ▸ List.mem_map_of_mem (f := fun p : MapEntry × β => p.1.born) hp)
      by_cases hq : seen.contains q.1.born = true
      · have h1 : remX (q :: l) seen = remX l seen := by simp only [remX, List.filter_cons, hq, Bool.not_true, Bool.false_eq_true, if_false]
        have h2 : remX (q :: l) (seen.push p.1.born) = remX l (seen.push p.1.born) := by simp only [remX, List.filter_cons, hc, hq, Bool.true_or, Bool.not_true, Bool.false_eq_true, if_false]
        rw [h1, h2]; exact ih
      · have hq : seen.contains q.1.born = false := by simpa using hq
        have hb : (q.1.born == p.1.born) = false := beq_false_of_ne hne
        have h1 : remX (q :: l) seen = q.2 :: remX l seen := by simp only [remX, List.filter_cons, hq, Bool.not_false, if_true, List.map_cons]
        have h2 : remX (q :: l) (seen.push p.1.born) = q.2 :: remX l (seen.push p.1.born) := by simp only [remX, List.filter_cons, hc, hq, hb, Bool.or_false, Bool.not_false, if_true, List.map_cons]
        rw [h1, h2]
        exact (ih.cons q.2).trans (List.Perm.swap ..)
theorem zip_born {β : Type} : ∀ {es : List MapEntry} {xs : List β}, es.length = xs.length → (es.zip xs).map (·.1.born) = es.map (·.born)
  | [], [], _ => rfl
  | _ :: _, _ :: _, h => by simp [zip_born (Nat.succ.inj h)]
  | [], _ :: _, h => by simp at h
  | _ :: _, [], h => by simp at h
theorem zip_snd {β : Type} : ∀ {es : List MapEntry} {xs : List β}, es.length = xs.length → (es.zip xs).map (·.2) = xs
  | [], [], _ => rfl
  | _ :: _, _ :: _, h => by simp [zip_snd (Nat.succ.inj h)]
  | [], _ :: _, h => by simp at h
  | _ :: _, [], h => by simp at h
theorem rem_all {β : Type} {es : List MapEntry} {xs : List β} (h : es.length = xs.length) : remX (es.zip xs) #[] = xs := by
  unfold remX
  rw [List.filter_eq_self.2 (fun p _ => by simp)]
  exact zip_snd h
theorem rem_nil {β : Type} {es : Array MapEntry} {xs : List β} {seen : Array Nat} (h : (leftOf es seen).size = 0) : remX (es.toList.zip xs) seen = [] := by
  unfold remX
  rw [List.map_eq_nil_iff, List.filter_eq_nil_iff]
  intro p hp
  have h1 : p.1 ∈ es.toList := (List.of_mem_zip (a := p.1) (b := p.2) hp).1
  have h2 : leftOf es seen = #[] := Array.eq_empty_of_size_eq_zero h
  unfold leftOf at h2
  rw [Array.filter_eq_empty_iff] at h2
  have := h2 p.1 (by simpa using h1)
  simpa using this
section
variable {P : Program} {kt : TypeId} {κ α : Type} {K : Ky P kt κ} {E : Enc α} {ag : Bool}
/-- A map that is read, entry by entry. -/
def RdX (K : Ky P kt κ) (E : Enc α) (ag : Bool) (M : List Nat) (w : World) (b : Nat) (es : Array MapEntry) (c : Nat) (xs : List (κ × α)) : Prop :=
  b ∉ M ∧ w.heap[b]? = some (.map es c) ∧ Stp es c ∧ EntK K E ag M w es.toList xs
theorem RdX.adv {M M' : List Nat} {w w' : World} {b c : Nat} {es : Array MapEntry} {xs : List (κ × α)} (h : RdX K E ag M w b es c xs) (ha : Adv M M' w w') : RdX K E ag M' w' b es c xs := by
  obtain ⟨hb, h1, h2, h3⟩ := h
  have hlt := heap_lt h1
  exact ⟨fun hb' => (ha.new b hb').elim hb (fun h => absurd hlt (by omega)), (ha.kp.block b hlt hb).trans h1, h2, h3.adv ha⟩
theorem EntK.zip {M : List Nat} {w : World} : ∀ {es : List MapEntry} {xs : List (κ × α)}, EntK K E ag M w es xs → ∀ {e : MapEntry} {x : κ × α}, (e, x) ∈ es.zip xs → e.key = K.val x.1 ∧ K.ok x.1 ∧ Vl E ag M w e.val x.2
  | [], _, _, _, _, h => by simp at h
  | _ :: _, [], h, _, _, _ => h.elim
  | e :: es, x :: xs, ⟨h1, h2, h3⟩, e', x', h => by
    rw [List.zip_cons_cons, List.mem_cons] at h
    rcases h with h | h
    · cases h; exact ⟨h1.1, h1.2, h2⟩
    · exact EntK.zip h3 h
theorem mem_zip_left {β : Type} : ∀ {es : List MapEntry} {xs : List β}, es.length = xs.length → ∀ e ∈ es, ∃ x, (e, x) ∈ es.zip xs
  | [], _, _, _, h => by cases h
  | e :: es, x :: xs, hl, e', h => by
    rcases List.mem_cons.1 h with rfl | h
    · exact ⟨x, by simp⟩
    · obtain ⟨y, hy⟩ := mem_zip_left (Nat.succ.inj hl) e' h
      exact ⟨y, by simp [hy]⟩
  | _ :: _, [], h, _, _ => by simp at h
/-- Where one is in a map: what is still to come, and what came last. -/
def itR (r b c : Nat) (es : Array MapEntry) (xs : List (κ × α)) (o : Option (κ × α)) (l : List (κ × α)) : Res where
  fp := [r]
  mu := []
  holds := fun _ w => ∃ seen, w.heap[r]? = some (.mapIter (some b) c seen c) ∧ l.Perm (remX (es.toList.zip xs) seen) ∧ ∀ y, o = some y → ∃ (s0 : Array Nat) (e : MapEntry), seen = s0.push e.born ∧ (e, y) ∈ es.toList.zip xs
  adv := fun _ hb h => by
    obtain ⟨seen, h1, h2⟩ := h
    exact ⟨seen, (hb r (by simp)).trans h1, h2⟩
  lt := fun h x hx => by
    obtain ⟨seen, h1, h2⟩ := h
    have : x = r := by simpa using hx
    subst this; exact heap_lt h1
variable {N : Nat} {ops : Array Oper} {q : Md} {rest : List Oper} {ds : List Deferred} {L : Env} {w w0 : World} {A B : Out} {X : Nat → Out} {Z : List PanicEntry → Out} {d : Nat} {ty : TypeId} {pos : String} {af : Array Edge} {Mu M : List Nat} {σ : List Res}
theorem Hp.weak {r r' : Res} (h : Hp w0 Mu M σ w) (i : Nat) (hi : σ[i]? = some r) (hf : r'.fp = r.fp) (hm : r'.mu = r.mu) (hh : ∀ M', (∀ b ∈ M', b ∈ r'.fp ∨ b ∈ mm σ M) → r'.holds M' w) : Hp w0 Mu M (σ.set i r') w :=
  h.upd i hi (Kp.refl _ _) (fun b hb => .inl (hf ▸ hb)) hm hh
/-- What came last is forgotten. -/
theorem Hp.itOff {r b c : Nat} {es : Array MapEntry} {xs l : List (κ × α)} {o : Option (κ × α)} (h : Hp w0 Mu M σ w) (i : Nat) (hi : σ[i]? = some (itR r b c es xs o l)) : Hp w0 Mu M (σ.set i (itR r b c es xs none l)) w :=
  h.weak i hi rfl rfl fun _ _ => by
    obtain ⟨seen, h1, h2, _⟩ := h.get i hi
    exact ⟨seen, h1, h2, fun _ h => by cases h⟩
/-- A way through a map begins. -/
theorem y_rg {f : FMap κ α} {mv : Value} {x : Operand} {t kt' e : TypeId} (hI : Hp w0 Mu M σ w) (hm : RdF K E ag (mm σ M) w mv f)
    (hx : ev L x = some mv) (ht : P.underlying t = some (.map kt' e)) (hN : Nat.blt d N = true)
    (h : ∀ r b c es xs w', RdX K E ag (mm σ M) w b es c xs → Lists f xs → Hp w0 Mu M (itR r b c es xs none xs :: σ) w' → Adv (mm σ M) (mm (itR r b c es xs none xs :: σ) M) w w' → Reg P N ops .seq rest ds ((d, .pointer (some ⟨r, 0, none⟩)) :: L) w' A B X Z) :
    Reg P N ops .seq (⟨some d, .range t x, ty, pos, af, none⟩ :: rest) ds L w A B X Z := by
  obtain ⟨b, rfl, hb, es, c, xs, h1, h2, h3, h4⟩ := hm
  have hx' : Ext w (w.alloc (.mapIter (some b) c #[] c)) := Kp.alloc _ _ _
  have hn : ∀ y ∈ (itR w.heap.size b c es xs none xs).fp, w.heap.size ≤ y ∧ y < (w.alloc (.mapIter (some b) c #[] c)).heap.size := fun y hy => by
    have : y = w.heap.size := by simpa [itR] using hy
    subst this; exact ⟨Nat.le_refl _, by show w.heap.size < (w.heap.push _).size; simp⟩
  refine Reg.eff (.pointer (some ⟨w.heap.size, 0, none⟩)) (w.alloc (.mapIter (some b) c #[] c)) rfl rfl hN (fun a ha => ?_) (h _ b c es xs _ ⟨hb, h1, h2, h3⟩ h4 (hI.add hx' hn rfl ⟨#[], heap_alloc_new w _, by rw [rem_all h3.len], fun _ h => by cases h⟩) (hI.addA hx' hn))
  have hr := run_range_map w t kt' e b es c ht h1
  simp [execOp, ha.eval hx, hr]
/-- One step on. -/
theorem y_nx (j : Nat) {b r c : Nat} {es : Array MapEntry} {xs l : List (κ × α)} {o : Option (κ × α)} {x : Operand} (hI : Hp w0 Mu M σ w) (hm : RdX K E ag (mm σ M) w b es c xs) (hj : σ[j]? = some (itR r b c es xs o l))
    (hx : ev L x = some (.pointer (some ⟨r, 0, none⟩))) (hN : Nat.blt d N = true)
    (h0 : l = [] → Reg P N ops .seq rest ds ((d, .tuple #[.bool false]) :: L) w A B X Z)
    (h1 : ∀ (y : κ × α) (l' : List (κ × α)) k v w', l.Perm (y :: l') → Hp w0 Mu M (σ.set j (itR r b c es xs (some y) l')) w' → Adv (mm σ M) (mm (σ.set j (itR r b c es xs (some y) l')) M) w w' →
      Reg P N ops .seq rest ds ((d, .tuple #[.bool true, k, v]) :: L) w' A B X Z) :
    Reg P N ops .seq (⟨some d, .next x false, ty, pos, af, none⟩ :: rest) ds L w A B X Z := by
  obtain ⟨_, hb, hs, hE⟩ := hm
  obtain ⟨seen, hr, hl, _⟩ := hI.get j hj
  rcases run_next_at (P := P) w ty r b c c seen es c hr hb hs.2 (Nat.le_refl _) with ⟨g1, g2⟩ | ⟨e, he, w1, hw1, g2⟩
  · refine Reg.eff (.tuple #[.bool false]) w rfl rfl hN (fun a ha => ?_) (h0 ?_)
    · simp [execOp, ha.eval hx, g2]
    · rw [rem_nil g1] at hl; exact List.perm_nil.1 hl
  · have hel : e ∈ es.toList ∧ seen.contains e.born = false := by
      unfold leftOf at he
      have he' : e ∈ es.filter fun e => !seen.contains e.born := by simpa using he
      have := Array.mem_filter.1 he'
      exact ⟨by simpa using this.1, by simpa using this.2⟩
    obtain ⟨y, hz⟩ := mem_zip_left hE.len e hel.1
    have hp := rem_cons (p := (e, y)) (seen := seen) (l := es.toList.zip xs) (by rw [zip_born hE.len]; exact hs.1) hz hel.2
    have hr1 : w1.heap[r]? = some (.mapIter (some b) c seen c) := by rcases hw1 with rfl | rfl <;> exact hr
    have h01 : Kp [r] w w1 := by
      rcases hw1 with rfl | rfl
      · exact Kp.refl _ _
      · exact Kp.drew _ _
    have hkp : Kp [r] w (setBlock w1 r (.mapIter (some b) c (seen.push e.born) c)) := h01.trans (Kp.setB hr1)
    have hn : ∀ z ∈ (itR r b c es xs (some y) (remX (es.toList.zip xs) (seen.push e.born))).fp, z ∈ (itR r b c es xs o l).fp ∨ w.heap.size ≤ z := fun z hz => .inl hz
    refine Reg.eff (.tuple #[.bool true, e.key, e.val]) _ rfl rfl hN (fun a ha => ?_) (h1 y (remX (es.toList.zip xs) (seen.push e.born)) e.key e.val _ (hl.trans hp) (hI.upd j hj hkp hn rfl fun M' _ => ⟨_, (MapKept.heap_set hr1).1, List.Perm.refl _, fun y' hy' => ⟨seen, e, rfl, by cases hy'; exact hz⟩⟩) (hI.updA (r' := itR r b c es xs (some y) (remX (es.toList.zip xs) (seen.push e.born))) j hj hkp hn))
    simp [execOp, ha.eval hx, g2]
/-- What the step came to, read. -/
theorem y_en (j : Nat) {b r c : Nat} {es : Array MapEntry} {xs l : List (κ × α)} {y : κ × α} {x : Operand} (hI : Hp w0 Mu M σ w) (hm : RdX K E ag (mm σ M) w b es c xs) (hj : σ[j]? = some (itR r b c es xs (some y) l))
    (hx : ev L x = some (.pointer (some ⟨r, 0, none⟩))) (hN : Nat.blt d N = true)
    (h : ∀ v, K.ok y.1 → Vl E ag (mm σ M) w v y.2 → Reg P N ops .seq rest ds ((d, .tuple #[K.val y.1, v]) :: L) w A B X Z) :
    Reg P N ops .seq (⟨some d, .entry x, ty, pos, af, none⟩ :: rest) ds L w A B X Z := by
  obtain ⟨_, hb, hs, hE⟩ := hm
  obtain ⟨seen, hr, _, ho⟩ := hI.get j hj
  obtain ⟨s0, e, rfl, hz⟩ := ho y rfl
  obtain ⟨hk, hok, hv⟩ := hE.zip hz
  have h' := h e.val hok hv
  rw [← hk] at h'
  refine Reg.eff (.tuple #[e.key, e.val]) w rfl rfl hN (fun a ha => ?_) h'
  have := run_entry_at (P := P) w r b c s0 es c e hr hb (List.of_mem_zip hz).1 hs.1
  simp [execOp, ha.eval hx, this]
end
end Go.Sx
namespace Go.Sx
open Go Go.RowKit
variable [Trk]
open Classical in
/-- Going through a map, and what comes of it: the answer, if it is one whatever the order. -/
noncomputable def anyK {κ α R : Type} (m : FMap κ α) (K : List (κ × α) → Option R) : Option R := if h : ∃ r, ∀ l, Lists m l → K l = some r then some h.choose else none
end Go.Sx
namespace Go.Sx
open Go Go.RowKit Go.ChangeMaps
open Classical in
noncomputable def flen {κ α : Type} (f : FMap κ α) : Int := if h : ∃ l, Lists f l then (h.choose.length : Int) else 0
theorem Lists.one {κ α : Type} {f : FMap κ α} {l l' : List (κ × α)} (h : Lists f l) (h' : Lists f l') : l.Perm l' :=
  (List.perm_ext_iff_of_nodup ((List.pairwise_map.1 h.1).imp fun h e => h (congrArg _ e)) ((List.pairwise_map.1 h'.1).imp fun h e => h (congrArg _ e))).2 fun ⟨a, y⟩ => (h.2 a y).trans (h'.2 a y).symm
theorem flen_of {κ α : Type} {f : FMap κ α} {l : List (κ × α)} (h : Lists f l) : flen f = l.length := by
  unfold flen
  have hx : ∃ l, Lists f l := ⟨l, h⟩
  rw [dif_pos hx]
  exact congrArg _ (hx.choose_spec.one h).length_eq
end Go.Sx
namespace Go.Sx
open Go Go.RowKit
variable [Trk]
/- The same as the library's, but not by definition: else the kernel unfolds what numbers have to fit. -/
theorem condT {α : Type} (a b : α) : cond true a b = a := (fun (h : cond true a b = a) => h) (by cases a_eq : (0 : Nat) <;> rfl)
theorem bindS {α β : Type} (a : α) (f : α → Option β) : Option.bind (some a) f = f a := (fun (h : Option.bind (some a) f = f a) => h) (by cases a_eq : (0 : Nat) <;> rfl)
theorem ixo_at {α : Type} {l : List α} {i : Nat} {y : α} (h : l[i]? = some y) : ixo l (i : Int) = some y := by rw [ixo_nat]; exact h
theorem lt_cast {i n : Nat} (h : i < n) : decide ((i : Int) < (n : Int)) = true := by simpa using h
theorem not_lt_cast {n : Nat} : decide ((n : Int) < (n : Int)) = false := by simp
theorem get_lt {α : Type} {l : List α} {j : Nat} {y : α} (h : l[j]? = some y) : j < l.length := by
  rcases Nat.lt_or_ge j l.length with h1 | h1
  · exact h1
  · rw [List.getElem?_eq_none h1] at h; cases h
theorem appo_ok {α : Type} {b : Nat} {xs ys : List α} (h : (xs.length + ys.length) * b ≤ 140737488355328) (h2 : xs.length + ys.length ≤ 140737488355328) : appo b xs ys = some (xs ++ ys) := if_pos ⟨h, h2⟩
end Go.Sx
namespace Go.Sx
open Go Go.RowKit
variable [Trk]
def Ret {α : Type} (o : Option α) (Q : α → Prop) : Prop := ∃ a, o = some a ∧ Q a
section
variable {α β S R : Type}
theorem Ret.val {o : Option α} {a : α} {Q : α → Prop} (h : o = some a) (q : Q a) : Ret o Q := ⟨a, h, q⟩
theorem Ret.ok {a : α} {Q : α → Prop} (q : Q a) : Ret (some a) Q := ⟨a, rfl, q⟩
theorem Ret.bind {o : Option α} {K : α → Option β} {Q : β → Prop} (h : Ret o fun a => Ret (K a) Q) : Ret (Option.bind o K) Q := by
  obtain ⟨a, h1, h2⟩ := h
  subst h1; exact h2
theorem Ret.mono {o : Option α} {Q Q' : α → Prop} (h : Ret o Q) (hq : ∀ a, Q a → Q' a) : Ret o Q' := by
  obtain ⟨a, h1, h2⟩ := h
  exact ⟨a, h1, hq a h2⟩
theorem Ret.cond {b : Bool} {x y : Option α} {Q : α → Prop} (h1 : b = true → Ret x Q) (h2 : b = false → Ret y Q) : Ret (cond b x y) Q := by
  cases b with
  | true => exact h1 rfl
  | false => exact h2 rfl
theorem Ret.condT {b : Bool} {x y : Option α} {Q : α → Prop} (h : b = true) (h1 : Ret x Q) : Ret (_root_.cond b x y) Q := by subst h; exact h1
theorem Ret.condF {b : Bool} {x y : Option α} {Q : α → Prop} (h : b = false) (h1 : Ret y Q) : Ret (_root_.cond b x y) Q := by subst h; exact h1
theorem Ret.chk {x : Int} {Q : Int → Prop} (h : -9223372036854775808 ≤ x ∧ x ≤ 9223372036854775807) (q : Q x) : Ret (chk .i64 x) Q := ⟨x, chk_i64 h, q⟩
theorem Ret.ixo {l : List α} {i : Nat} {y : α} {Q : α → Prop} (h : l[i]? = some y) (q : Q y) : Ret (ixo l (i : Int)) Q := ⟨y, ixo_at h, q⟩
theorem Ret.appo {b : Nat} {xs ys : List α} {Q : List α → Prop} (h : (xs.length + ys.length) * b ≤ 140737488355328) (h2 : xs.length + ys.length ≤ 140737488355328) (q : Q (xs ++ ys)) : Ret (appo b xs ys) Q := ⟨_, appo_ok h h2, q⟩
theorem Ret.seto {l : List α} {i : Nat} {x : α} {Q : List α → Prop} (h : i < l.length) (q : Q (l.set i x)) : Ret (seto l (i : Int) x) Q :=
  ⟨_, by unfold Sx.seto; rw [if_pos ⟨by omega, by omega⟩, Int.toNat_natCast], q⟩
theorem Ret.remO {x y : Int} {Q : Int → Prop} (h0 : 0 ≤ x) (h1 : 0 < y) (q : Q (x % y)) : Ret (remO x y) Q := ⟨_, by unfold Sx.remO; rw [if_pos ⟨h0, h1⟩], q⟩
def Nxt (A : S → Prop) (Q : R → Prop) : S ⊕ R → Prop
  | .inl s => A s
  | .inr r => Q r
theorem Ret.next {s : S} {A : S → Prop} {Q : R → Prop} (h : A s) : Ret (some (.inl s)) (Nxt A Q) := ⟨_, rfl, h⟩
theorem Ret.done {r : R} {A : S → Prop} {Q : R → Prop} (h : Q r) : Ret (some (.inr r)) (Nxt A Q) := ⟨_, rfl, h⟩
theorem Ret.elimL {γ : Type} {f : α → Option γ} {g : β → Option γ} {a : α} {Q : γ → Prop} (h : Ret (f a) Q) : Ret (Sum.elim f g (.inl a)) Q := h
theorem Ret.elimR {γ : Type} {f : α → Option γ} {g : β → Option γ} {b : β} {Q : γ → Prop} (h : Ret (g b) Q) : Ret (Sum.elim f g (.inr b)) Q := h
theorem Ret.loop {body : S → Option (S ⊕ R)} {s0 : S} {Q : R → Prop} (I : S → Prop) (μ : S → Nat) (h0 : I s0) (step : ∀ s, I s → Ret (body s) (Nxt (fun s' => I s' ∧ μ s' < μ s) Q)) : Ret (loopM body s0) Q := by
  have key : ∀ (n : Nat) (s : S), μ s ≤ n → I s → Ret (loopM body s) Q := by
    intro n
    induction n with
    | zero =>
      intro s hn hs
      obtain ⟨r, h1, h2⟩ := step s hs
      cases r with
      | inl s' => have := h2.2; omega
      | inr r => exact ⟨r, loopM_end h1, h2⟩
    | succ n ih =>
      intro s hn hs
      obtain ⟨r, h1, h2⟩ := step s hs
      cases r with
      | inl s' => rw [loopM_go h1]; exact ih s' (by have := h2.2; omega) h2.1
      | inr r => exact ⟨r, loopM_end h1, h2⟩
  exact key _ s0 (Nat.le_refl _) h0
theorem Ret.yes {o : Option Bool} (h : Ret o fun b => b = true) : o = some true := by
  obtain ⟨a, h1, h2⟩ := h
  rw [h1, h2]
end
end Go.Sx
namespace Go.Sx
open Go Go.RowKit
variable [Trk]
theorem CallsV.go {P : Program} {w : World} {g : Nat} {caps args all : List Value} {R R' : Ending → World → Prop} (h2 : ∀ args w, (callFunc g args).run P w = .ok (.enter g args) w) (he : args ++ caps = all) (h3 : Calls P g all.toArray w R) (hr : ∀ e w', R e w' → R' e w') : CallsV P (.func (.func g) #[] caps.toArray) args w R' := (CallsV.ofL h2 he h3).mono hr
section
variable {P : Program} {N : Nat} {ops : Array Oper} {q : Md} {rest : List Oper} {ds : List Deferred} {L : Env} {w : World} {A B : Out} {X : Nat → Out} {Z : List PanicEntry → Out}
variable {w0 : World} {Mu M : List Nat} {σ : List Res}
/-- A row, lent while others are not written. -/
theorem Hp.lendC (h : Hp w0 Mu M σ w) (l : List Nat) (i : Nat) {e b : Nat} {cs : List Value} (hl : l.contains i = false) (hi : σ[i]? = some (rowR e b cs)) : RdC (mm (Sx.sel σ l) M) w b 0 cs := by
  refine RdC.of_row (fun hb' => ?_) (h.row i hi)
  have hbf : b ∈ (rowR e b cs).fp := by simp [rowR]
  rcases mem_mm.1 hb' with ⟨s, hs, hb'⟩ | hb'
  · obtain ⟨j, hj, hs⟩ := mem_sel hs
    refine h.dis i j _ s hi hs (fun e => ?_) b hbf hb'
    subst e
    simp at hl; exact hl hj
  · exact h.sepM _ (List.mem_of_getElem? hi) b hbf hb'
end
end Go.Sx
namespace Go.Proofs
open Go.Shelf
def Try.layGrow_ren : Go.Shelf.Ren := ⟨fun | 4 => 74 | n => n, fun | 22 => 42 | 25 => 3 | 3 => 3 | 4 => 4 | 9 => 9 | 20 => 20 | 0 => 0 | n => n, fun | n => n⟩
theorem Try.layGrow : Go.Proofs.Lays8.n4 Try.prog Try.layGrow_ren := {
  mixed := by kernel_rfl
  f4 := ⟨Try.f74.name, by decide, Try.func74.trans (congrArg some (by kernel_rfl))⟩
  t0 := Try.underlying0
  a0 := Try.isAgg0
  z0 := Try.sizeOf0
  v0 := Try.zeroValue0
  t3 := Try.underlying3
  a3 := Try.isAgg3
  z3 := Try.sizeOf3
  v3 := Try.zeroValue3
  t4 := Try.underlying4
  a4 := Try.isAgg4
  z4 := Try.sizeOf4
  v4 := Try.zeroValue4
  t9 := Try.underlying9
  a9 := Try.isAgg9
  z9 := Try.sizeOf9
  v9 := Try.zeroValue9
  t20 := Try.underlying20
  a20 := Try.isAgg20
  z20 := Try.sizeOf20
  v20 := Try.zeroValue20
  t22 := Try.underlying42
  a22 := Try.isAgg42
  z22 := Try.sizeOf42
  v22 := Try.zeroValue42 }
end Go.Proofs
namespace Go.Proofs
open Go.Shelf
def Try.laySort_ren : Go.Shelf.Ren := ⟨fun | 5 => 72 | 8 => 77 | 7 => 76 | 19 => 87 | 20 => 88 | 10 => 78 | 11 => 79 | 12 => 80 | 13 => 81 | 14 => 82 | 15 => 83 | 16 => 84 | 17 => 85 | 18 => 86 | 30 => 89 | 31 => 90 | 32 => 91 | 33 => 92 | 34 => 93 | 35 => 94 | 40 => 95 | n => n, fun | 23 => 42 | 25 => 3 | 3 => 3 | 32 => 129 | 22 => 42 | 0 => 0 | 44 => 80 | 46 => 139 | 4 => 4 | 36 => 132 | 35 => 131 | 41 => 67 | 5 => 5 | 9 => 9 | 53 => 140 | 57 => 144 | 63 => 146 | 64 => 30 | n => n, fun | n => n⟩
theorem Try.laySort : Go.Proofs.SlLaysM.n5 Try.prog Try.laySort_ren := {
  mixed := by kernel_rfl
  f5 := ⟨Try.f72.name, by decide, Try.func72.trans (congrArg some (by kernel_rfl))⟩
  f7 := ⟨Try.f76.name, by decide, Try.func76.trans (congrArg some (by kernel_rfl))⟩
  f8 := Try.func77.trans (congrArg some (by kernel_rfl))
  f10 := ⟨Try.f78.name, by decide, Try.func78.trans (congrArg some (by kernel_rfl))⟩
  f11 := ⟨Try.f79.name, by decide, Try.func79.trans (congrArg some (by kernel_rfl))⟩
  f12 := ⟨Try.f80.name, by decide, Try.func80.trans (congrArg some (by kernel_rfl))⟩
  f13 := ⟨Try.f81.name, by decide, Try.func81.trans (congrArg some (by kernel_rfl))⟩
  f14 := ⟨Try.f82.name, by decide, Try.func82.trans (congrArg some (by kernel_rfl))⟩
  f15 := ⟨Try.f83.name, by decide, Try.func83.trans (congrArg some (by kernel_rfl))⟩
  f16 := ⟨Try.f84.name, by decide, Try.func84.trans (congrArg some (by kernel_rfl))⟩
  f17 := ⟨Try.f85.name, by decide, Try.func85.trans (congrArg some (by kernel_rfl))⟩
  f18 := ⟨Try.f86.name, by decide, Try.func86.trans (congrArg some (by kernel_rfl))⟩
  f19 := Try.func87.trans (congrArg some (by kernel_rfl))
  f20 := Try.func88.trans (congrArg some (by kernel_rfl))
  f30 := ⟨Try.f89.name, by decide, Try.func89.trans (congrArg some (by kernel_rfl))⟩
  f31 := Try.func90.trans (congrArg some (by kernel_rfl))
  f32 := Try.func91.trans (congrArg some (by kernel_rfl))
  f33 := ⟨Try.f92.name, by decide, Try.func92.trans (congrArg some (by kernel_rfl))⟩
  f34 := ⟨Try.f93.name, by decide, Try.func93.trans (congrArg some (by kernel_rfl))⟩
  f35 := ⟨Try.f94.name, by decide, Try.func94.trans (congrArg some (by kernel_rfl))⟩
  f40 := ⟨Try.f95.name, by decide, Try.func95.trans (congrArg some (by kernel_rfl))⟩
  t0 := Try.underlying0
  a0 := Try.isAgg0
  z0 := Try.sizeOf0
  v0 := Try.zeroValue0
  t3 := Try.underlying3
  a3 := Try.isAgg3
  z3 := Try.sizeOf3
  v3 := Try.zeroValue3
  t4 := Try.underlying4
  a4 := Try.isAgg4
  z4 := Try.sizeOf4
  v4 := Try.zeroValue4
  t5 := Try.underlying5
  a5 := Try.isAgg5
  z5 := Try.sizeOf5
  v5 := Try.zeroValue5
  t9 := Try.underlying9
  a9 := Try.isAgg9
  z9 := Try.sizeOf9
  v9 := Try.zeroValue9
  t22 := Try.underlying42
  a22 := Try.isAgg42
  z22 := Try.sizeOf42
  v22 := Try.zeroValue42
  t23 := Try.underlying42
  a23 := Try.isAgg42
  z23 := Try.sizeOf42
  v23 := Try.zeroValue42
  t25 := Try.underlying3
  a25 := Try.isAgg3
  z25 := Try.sizeOf3
  v25 := Try.zeroValue3
  t32 := Try.underlying129
  a32 := Try.isAgg129
  z32 := Try.sizeOf129
  v32 := Try.zeroValue129
  t35 := Try.underlying131
  a35 := Try.isAgg131
  z35 := Try.sizeOf131
  v35 := Try.zeroValue131
  t36 := Try.underlying132
  a36 := Try.isAgg132
  z36 := Try.sizeOf132
  v36 := Try.zeroValue132
  t41 := Try.underlying67
  a41 := Try.isAgg67
  z41 := Try.sizeOf67
  v41 := Try.zeroValue67
  t44 := Try.underlying80
  a44 := Try.isAgg80
  z44 := Try.sizeOf80
  v44 := Try.zeroValue80
  t46 := Try.underlying139
  a46 := Try.isAgg139
  z46 := Try.sizeOf139
  v46 := Try.zeroValue139
  t53 := Try.underlying140
  a53 := Try.isAgg140
  z53 := Try.sizeOf140
  v53 := Try.zeroValue140
  t57 := Try.underlying144
  a57 := Try.isAgg144
  z57 := Try.sizeOf144
  v57 := Try.zeroValue144
  t63 := Try.underlying146
  a63 := Try.isAgg146
  z63 := Try.sizeOf146
  v63 := Try.zeroValue146
  t64 := Try.underlying30
  a64 := Try.isAgg30
  z64 := Try.sizeOf30
  v64 := Try.zeroValue30 }
end Go.Proofs
set_option linter.unusedVariables false
set_option linter.unusedSimpArgs false
namespace Go.Proofs.Ytdbogmmdogjhpaa.S
theorem sub_len : ∀ (xs ys : List Nat), xs.Nodup → (∀ x ∈ xs, x ∈ ys) → xs.length ≤ ys.length
  | [], _, _, _ => Nat.zero_le _
  | x :: xs, ys, hn, hs => by
    rw [List.nodup_cons] at hn
    have h1 := sub_len xs (ys.erase x) hn.2 fun y hy => (List.mem_erase_of_ne (fun e : y = x => hn.1 (e ▸ hy))).2 (hs y (List.mem_cons_of_mem _ hy))
    have h2 := List.length_erase_of_mem (hs x (by simp))
    have h3 := List.length_pos_of_mem (hs x (by simp))
    simp only [List.length_cons]; omega
theorem nodup_len {N : Nat} {xs : List Nat} (hn : xs.Nodup) (h : ∀ x ∈ xs, x < N) : xs.length ≤ N := by
  have := sub_len xs (List.range N) hn fun x hx => List.mem_range.2 (h x hx)
  simpa using this
theorem least_ex {p : Nat → Prop} (h : ∃ n, p n) : ∃ n, p n ∧ ∀ m < n, ¬ p m := by
  obtain ⟨n, hn⟩ := h
  induction n using Nat.strongRecOn with
  | ind n ih =>
    by_cases hx : ∃ m, m < n ∧ p m
    · obtain ⟨m, hm, hp⟩ := hx; exact ih m hm hp
    · exact ⟨n, hn, fun m hm hp => hx ⟨m, hm, hp⟩⟩
section
variable (N : Nat) (W : Nat → Nat → Int)
def Ed (s : Int) (i k : Nat) : Prop := i < N ∧ k < N ∧ s ≤ W i k
/-- Walks of so many steps. -/
def Wk (s : Int) (i : Nat) : Nat → Nat → Prop
  | 0, k => k = i
  | m + 1, k => ∃ j, Wk s i m j ∧ Ed N W s j k
def Rc (s : Int) (i k : Nat) : Prop := ∃ m, Wk N W s i m k
def IsD (s : Int) (i k m : Nat) : Prop := Wk N W s i m k ∧ ∀ m' < m, ¬ Wk N W s i m' k
/-- Walks as lists. -/
inductive Pw (s : Int) (i : Nat) : Nat → List Nat → Nat → Prop
  | nil : Pw s i 0 [i] i
  | cons {m : Nat} {p : List Nat} {j k : Nat} : Pw s i m p j → Ed N W s j k → Pw s i (m + 1) (p ++ [k]) k
def val (p : List Nat) : Nat := p.foldl (fun a x => a * N + x) 0
/-- The first one of the shortest walks. -/
def Best (s : Int) (i k : Nat) (p : List Nat) : Prop := ∃ m, IsD N W s i k m ∧ Pw N W s i m p k ∧ ∀ q, Pw N W s i m q k → val N p ≤ val N q
/-- Ways by what lies below a number. -/
def Wr (s : Int) (V : Nat → Nat → Int) : Nat → Nat → Nat → Prop
  | 0, i, k => s ≤ V i k
  | j + 1, i, k => Wr s V j i k ∨ (Wr s V j i j ∧ Wr s V j j k)
end
section
variable {N : Nat} {W : Nat → Nat → Int} {s : Int} {i j k : Nat}
theorem Wk.lt {m : Nat} (h : Wk N W s i m k) (hi : i < N) : k < N := by
  cases m with
  | zero => have h : k = i := h; omega
  | succ m => obtain ⟨j, _, h2⟩ := h; exact h2.2.1
theorem Wk.add {m : Nat} (h : Wk N W s i m j) : ∀ {n k : Nat}, Wk N W s j n k → Wk N W s i (m + n) k
  | 0, k, h2 => by have h2 : k = j := h2; subst h2; exact h
  | n + 1, k, ⟨x, h2, h3⟩ => ⟨x, Wk.add h h2, h3⟩
theorem Ed.wk (h : Ed N W s i k) : Wk N W s i 1 k := ⟨i, rfl, h⟩
theorem Ed.sym (hw : ∀ a b, W a b = W b a) (h : Ed N W s i k) : Ed N W s k i := ⟨h.2.1, h.1, by rw [hw]; exact h.2.2⟩
theorem Wk.sym (hw : ∀ a b, W a b = W b a) : ∀ {m k : Nat}, Wk N W s i m k → Wk N W s k m i
  | 0, k, h => by have h : k = i := h; exact h.symm
  | m + 1, k, ⟨x, h2, h3⟩ => by
    have := (h3.sym hw).wk.add (n := m) (Wk.sym hw h2)
    rwa [Nat.add_comm] at this
theorem Wk.mono {t : Int} (ht : t ≤ s) : ∀ {m k : Nat}, Wk N W s i m k → Wk N W t i m k
  | 0, _, h => h
  | m + 1, _, ⟨x, h2, h3⟩ => ⟨x, Wk.mono ht h2, h3.1, h3.2.1, Int.le_trans ht h3.2.2⟩
theorem Rc.refl : Rc N W s i i := ⟨0, rfl⟩
theorem Rc.trans (h : Rc N W s i j) (h2 : Rc N W s j k) : Rc N W s i k := by
  obtain ⟨m, h⟩ := h
  obtain ⟨n, h2⟩ := h2
  exact ⟨_, h.add (n := n) h2⟩
theorem Rc.sym (hw : ∀ a b, W a b = W b a) (h : Rc N W s i k) : Rc N W s k i := by
  obtain ⟨m, h⟩ := h
  exact ⟨m, h.sym hw⟩
theorem Rc.mono {t : Int} (ht : t ≤ s) (h : Rc N W s i k) : Rc N W t i k := by
  obtain ⟨m, h⟩ := h
  exact ⟨m, h.mono ht⟩
theorem Rc.ed (h : Ed N W s i k) : Rc N W s i k := ⟨1, h.wk⟩
theorem Rc.lt (h : Rc N W s i k) (hi : i < N) : k < N := by obtain ⟨m, h⟩ := h; exact h.lt hi
/-- What is closed under ties holds all that is reached. -/
theorem Rc.ind {p : Nat → Prop} (h0 : p i) (hs : ∀ a b, p a → Ed N W s a b → p b) (h : Rc N W s i k) : p k := by
  obtain ⟨m, h⟩ := h
  induction m generalizing k with
  | zero => have h : k = i := h; subst h; exact h0
  | succ m ih => obtain ⟨x, h2, h3⟩ := h; exact hs x k (ih h2) h3
theorem IsD.of (h : Rc N W s i k) : ∃ m, IsD N W s i k m := least_ex h
theorem IsD.uniq {m n : Nat} (h : IsD N W s i k m) (h2 : IsD N W s i k n) : m = n := by
  rcases Nat.lt_trichotomy m n with h3 | h3 | h3
  · exact absurd h.1 (h2.2 m h3)
  · exact h3
  · exact absurd h2.1 (h.2 n h3)
theorem IsD.zero : IsD N W s i i 0 := ⟨rfl, fun _ h => by omega⟩
theorem IsD.pred {m : Nat} (h : IsD N W s i k (m + 1)) : ∃ j, IsD N W s i j m ∧ Ed N W s j k := by
  obtain ⟨⟨j, h1, h2⟩, h3⟩ := h
  exact ⟨j, ⟨h1, fun m' hm h4 => h3 (m' + 1) (by omega) ⟨j, h4, h2⟩⟩, h2⟩
/-- A step on from what is so far away. -/
theorem IsD.next {m : Nat} (h : IsD N W s i j m) (he : Ed N W s j k) : ∃ n, n ≤ m + 1 ∧ IsD N W s i k n := by
  obtain ⟨n, hn⟩ := IsD.of (N := N) (W := W) (s := s) (i := i) (k := k) ⟨m + 1, j, h.1, he⟩
  refine ⟨n, ?_, hn⟩
  rcases Nat.lt_or_ge (m + 1) n with h3 | h3
  · exact absurd ⟨j, h.1, he⟩ (hn.2 _ h3)
  · exact h3
theorem IsD.all {m : Nat} (h : IsD N W s i k m) : ∀ n ≤ m, ∃ j, IsD N W s i j n := by
  induction m generalizing k with
  | zero => intro n hn; have : n = 0 := by omega
            subst this; exact ⟨k, h⟩
  | succ m ih =>
    intro n hn
    by_cases e : n = m + 1
    · subst e; exact ⟨k, h⟩
    · obtain ⟨j, h1, _⟩ := h.pred
      exact ih h1 n (by omega)
theorem IsD.lt (hi : i < N) {m : Nat} (h : IsD N W s i k m) : m < N := by
  have key : ∀ (m k : Nat), IsD N W s i k m → ∃ xs : List Nat, xs.length = m + 1 ∧ xs.Nodup ∧ (∀ x ∈ xs, x < N) ∧ ∀ x ∈ xs, ∃ m' ≤ m, IsD N W s i x m' := by
    intro m
    induction m with
    | zero => intro k hk; exact ⟨[k], rfl, by simp, fun x hx => by rw [List.mem_singleton.1 hx]; exact hk.1.lt hi, fun x hx => by rw [List.mem_singleton.1 hx]; exact ⟨0, Nat.le_refl _, hk⟩⟩
    | succ m ih =>
      intro k hk
      obtain ⟨j, h1, _⟩ := hk.pred
      obtain ⟨xs, h2, h3, h4, h5⟩ := ih j h1
      refine ⟨k :: xs, by simp [h2], List.nodup_cons.2 ⟨fun hm => ?_, h3⟩, fun x hx => ?_, fun x hx => ?_⟩
      · obtain ⟨m', hm', h6⟩ := h5 k hm
        have := h6.uniq hk; omega
      · rcases List.mem_cons.1 hx with rfl | hx
        · exact hk.1.lt hi
        · exact h4 x hx
      · rcases List.mem_cons.1 hx with rfl | hx
        · exact ⟨_, Nat.le_refl _, hk⟩
        · obtain ⟨m', h6, h7⟩ := h5 x hx
          exact ⟨m', by omega, h7⟩
  obtain ⟨xs, h1, h2, h3, _⟩ := key m k h
  have := nodup_len h2 h3
  omega
/-! Walks as lists. -/
theorem val_snoc (p : List Nat) (k : Nat) : val N (p ++ [k]) = val N p * N + k := by simp [val]
theorem Pw.len {m : Nat} {p : List Nat} (h : Pw N W s i m p k) : p.length = m + 1 := by
  induction h with
  | nil => rfl
  | cons _ _ ih => simp [ih]
theorem Pw.wk {m : Nat} {p : List Nat} (h : Pw N W s i m p k) : Wk N W s i m k := by
  induction h with
  | nil => rfl
  | cons _ he ih => exact ⟨_, ih, he⟩
theorem Pw.of : ∀ {m k : Nat}, Wk N W s i m k → ∃ p, Pw N W s i m p k
  | 0, k, h => by have h : k = i := h; subst h; exact ⟨[k], .nil⟩
  | m + 1, k, ⟨j, h1, h2⟩ => by
    obtain ⟨p, hp⟩ := Pw.of h1
    exact ⟨p ++ [k], .cons hp h2⟩
theorem Pw.last {m : Nat} {p : List Nat} (h : Pw N W s i m p k) : p[m]? = some k := by
  cases h with
  | nil => rfl
  | cons h1 _ => rw [List.getElem?_append_right (by rw [h1.len]; omega), h1.len]; simp
theorem Pw.mem {m : Nat} {p : List Nat} (h : Pw N W s i m p k) (hi : i < N) : ∀ x ∈ p, x < N := by
  induction h with
  | nil => intro x hx; rw [List.mem_singleton.1 hx]; exact hi
  | cons _ he ih =>
    intro x hx
    rcases List.mem_append.1 hx with hx | hx
    · exact ih x hx
    · rw [List.mem_singleton.1 hx]; exact he.2.1
theorem val_lt {p q : List Nat} {a b : Nat} (ha : a < N) (h : val N p < val N q) : val N (p ++ [a]) < val N (q ++ [b]) := by
  rw [val_snoc, val_snoc]
  have : (val N p + 1) * N ≤ val N q * N := Nat.mul_le_mul_right _ h
  rw [Nat.add_mul] at this
  omega
theorem val_inj {m : Nat} {p q : List Nat} {k k' : Nat} (hi : i < N) (h : Pw N W s i m p k) (h2 : Pw N W s i m q k') (e : val N p = val N q) : p = q := by
  induction h generalizing q k' with
  | nil => cases h2; rfl
  | @cons m p j k h1 he ih =>
    cases h2 with
    | @cons _ q j' k' h3 he' =>
      rw [val_snoc, val_snoc] at e
      have hk : k < N := he.2.1
      have hk' : k' < N := he'.2.1
      have h4 : val N p = val N q := by
        have a : (val N p * N + k) / N = (val N q * N + k') / N := by rw [e]
        rw [Nat.mul_comm, Nat.mul_add_div (by omega), Nat.div_eq_of_lt hk, Nat.mul_comm, Nat.mul_add_div (by omega), Nat.div_eq_of_lt hk'] at a
        omega
      have h5 : k = k' := by rw [h4] at e; omega
      rw [ih h3 h4, h5]
theorem Best.uniq {p q : List Nat} (hi : i < N) (h : Best N W s i k p) (h2 : Best N W s i k q) : p = q := by
  obtain ⟨m, h3, h4, h5⟩ := h
  obtain ⟨n, h6, h7, h8⟩ := h2
  have := h3.uniq h6
  subst this
  exact val_inj hi h4 h7 (Nat.le_antisymm (h5 _ h7) (h8 _ h4))
theorem Pw.split {m : Nat} {q : List Nat} (h : Pw N W s i m q k) : ∀ t ≤ m, ∃ j, Pw N W s i t (q.take (t + 1)) j ∧ Wk N W s j (m - t) k := by
  induction h with
  | nil => intro t ht; have : t = 0 := by omega
           subst this; exact ⟨i, .nil, rfl⟩
  | @cons m p j k h1 he ih =>
    intro t ht
    have hl := h1.len
    by_cases e : t = m + 1
    · subst e
      rw [List.take_of_length_le (by simp; omega)]
      exact ⟨k, .cons h1 he, by rw [Nat.sub_self]; exact rfl⟩
    · obtain ⟨x, h2, h3⟩ := ih t (by omega)
      rw [List.take_append_of_le_length (by omega)]
      refine ⟨x, h2, ?_⟩
      rw [show m + 1 - t = (m - t) + 1 by omega]
      exact ⟨j, h3, he⟩
/-! Ways by what lies below. -/
section
variable {V : Nat → Nat → Int}
theorem wr_row : Wr s V (j + 1) i j ↔ Wr s V j i j := ⟨fun h => h.elim id fun h => h.1, .inl⟩
theorem wr_col : Wr s V (j + 1) j k ↔ Wr s V j j k := ⟨fun h => h.elim id fun h => h.2, .inl⟩
theorem wr_trans : ∀ {j i m k : Nat}, m < j → Wr s V j i m → Wr s V j m k → Wr s V j i k
  | j + 1, i, m, k, hm, h1, h2 => by
    by_cases e : m = j
    · subst e
      exact .inr ⟨wr_row.1 h1, wr_col.1 h2⟩
    · have hm : m < j := by omega
      rcases h1 with a | ⟨a1, a2⟩
      · rcases h2 with b | ⟨b1, b2⟩
        · exact .inl (wr_trans hm a b)
        · exact .inr ⟨wr_trans hm a b1, b2⟩
      · rcases h2 with b | ⟨b1, b2⟩
        · exact .inr ⟨a1, wr_trans hm a2 b⟩
        · exact .inr ⟨a1, b2⟩
theorem wr_up {j n : Nat} (h : Wr s V j i k) (hn : j ≤ n) : Wr s V n i k := by
  induction n with
  | zero => have : j = 0 := by omega
            subst this; exact h
  | succ n ih =>
    by_cases e : j = n + 1
    · subst e; exact h
    · exact .inl (ih (by omega))
theorem wr_rc (hV : ∀ a b, s ≤ V a b → s ≤ W a b) : ∀ {j i k : Nat}, j ≤ N → i < N → k < N → Wr s V j i k → Rc N W s i k
  | 0, i, k, _, hi, hk, h => Rc.ed ⟨hi, hk, hV _ _ h⟩
  | j + 1, i, k, hj, hi, hk, h => by
    rcases h with h | ⟨h1, h2⟩
    · exact wr_rc hV (by omega) hi hk h
    · exact (wr_rc hV (by omega) hi (by omega) h1).trans (wr_rc hV (by omega) (by omega) hk h2)
theorem rc_wr (hV : ∀ a b, a ≠ b → s ≤ W a b → s ≤ V a b) (h : Rc N W s i k) : i = k ∨ Wr s V N i k := by
  refine Rc.ind (p := fun k => i = k ∨ Wr s V N i k) (.inl rfl) (fun a b ha he => ?_) h
  by_cases e : a = b
  · subst e; exact ha
  · have h1 : Wr s V N a b := wr_up (j := 0) (hV a b e he.2.2) (Nat.zero_le _)
    rcases ha with rfl | ha
    · exact .inr h1
    · exact .inr (wr_trans he.1 ha h1)
end
end
end Go.Proofs.Ytdbogmmdogjhpaa.S
namespace Go.Sx
open Go Go.RowKit Go.WideShapes
variable [Trk]
def Bridge (P : Program) (t : TypeId) {α : Type} (E : Enc α) : Prop :=
  ∀ (H : Type) (enc : TypeId × Value → H) (w : World) (n : Nat) (cs : List Value) (x : DataW H × List MemPlace), DataW.trod enc P w 0 (fun _ => true) true n t cs = some x → ∃ a, E.R [] w cs a
theorem wf_InK {k : IntKind} {n : Int} (h : (Lit.int k n).wf = true) : InK k n := by
  simpa [Lit.wf, InK] using h
theorem bridge_int {P : Program} {t : TypeId} {k : IntKind} (ht : P.underlying t = some (.int k)) : Bridge P t (intE k) := fun H enc w n cs x h => by
  obtain ⟨r, e1, _, hw⟩ := DataW.trod_int ht h
  exact ⟨r, e1, wf_InK hw⟩
theorem bridge_map {P : Program} {t : TypeId} {α β : Type} {f : β → α} {E : Enc α} (g : α → β) (hg : ∀ a, f (g a) = a) (B : Bridge P t E) : Bridge P t (mapE f E) := fun H enc w n cs x h => by
  obtain ⟨a, ha⟩ := B H enc w n cs x h
  exact ⟨g a, by show E.R [] w cs (f (g a)); rw [hg]; exact ha⟩
theorem bridge_slice {P : Program} {t e : TypeId} {α : Type} {E : Enc α} (ht : P.underlying t = some (.slice e)) (hc : P.cellsOf e = E.n) (B : Bridge P e E) : Bridge P t (sliceE E) := fun H enc w n cs x h => by
  rcases Go.Deep.open_slice ht h with ⟨rfl, _⟩ | ⟨a, len, cap, m, k, D, Pl, rfl, hb, hl, hm, hmm, _, hel⟩
  · exact ⟨[], .slice none 0 0, rfl, RdS.nil _ _ _⟩
  · simp only [if_true] at hmm
    rw [hmm] at hel
    have hx : ∀ i, ∃ y : Option α, i < len → ∃ cs' a', y = some a' ∧ E.R [] w cs' a' ∧ w.cells? 0 (a.add (i * P.cellsOf e)) (P.cellsOf e) = some cs' := fun i => by
      by_cases hi : i < len
      · obtain ⟨cs', h1, h2⟩ := hel i (by omega)
        obtain ⟨a', ha⟩ := B H enc w k cs' _ h2
        exact ⟨some a', fun _ => ⟨cs', a', rfl, ha, h1⟩⟩
      · exact ⟨none, fun h => absurd h hi⟩
    by_cases h0 : len = 0
    · subst h0
      exact ⟨[], .slice (some a) 0 cap, rfl, some a, cap, rfl, Nat.zero_le _, hm, .inl rfl⟩
    have hlist : ∃ xs : List α, xs.length = len ∧ ∀ i (hi : i < xs.length), ∃ cs', E.R [] w cs' xs[i] ∧ w.cells? 0 (a.add (i * P.cellsOf e)) (P.cellsOf e) = some cs' := by
      have h1 : ∀ i (hi : i < len), ∃ a', ∃ cs', E.R [] w cs' a' ∧ w.cells? 0 (a.add (i * P.cellsOf e)) (P.cellsOf e) = some cs' := fun i hi => by
        obtain ⟨y, hy⟩ := hx i
        obtain ⟨cs', a', _, h2, h3⟩ := hy hi
        exact ⟨a', cs', h2, h3⟩
      refine ⟨List.ofFn fun i : Fin len => (h1 i.1 i.2).choose, by simp, fun i hi => ?_⟩
      have hi' : i < len := by simpa using hi
      simpa using (h1 i hi').choose_spec
    obtain ⟨xs, hxl, hxs⟩ := hlist
    have hpos := E.pos
    have hspot : ∃ b o, a = ⟨b, o, none⟩ := by
      obtain ⟨cs', hR, hcc⟩ := hxs 0 (by omega)
      obtain ⟨_, hlen, hcell⟩ := World.cells?_some hcc
      have hn := E.len hR
      have h00 := hcell 0 (by omega)
      rw [Nat.zero_mul] at h00
      have ha : (a.add 0).add 0 = a := by simp [Addr.add]
      rw [ha, List.getElem?_eq_getElem (by omega)] at h00
      obtain ⟨b, o, s⟩ := a
      have hs : s = none := World.cell?_spot h00
      exact ⟨b, o, by rw [hs]⟩
    obtain ⟨b, o, rfl⟩ := hspot
    have hlt : b < w.heap.size := by
      obtain ⟨cs', hR, hcc⟩ := hxs 0 (by omega)
      obtain ⟨_, hlen, hcell⟩ := World.cells?_some hcc
      have hn := E.len hR
      have h00 := hcell 0 (by omega)
      rw [List.getElem?_eq_getElem (by omega)] at h00
      have := cell_lt h00
      simpa [add_none] using this
    refine ⟨xs, .slice (some ⟨b, o, none⟩) len cap, rfl, some ⟨b, o, none⟩, cap, by rw [hxl], by omega, hm, .inr ⟨b, o, rfl, by simp, hlt, fun i hi => ?_⟩⟩
    obtain ⟨cs', hR, hcc⟩ := hxs i hi
    obtain ⟨_, hlen, hcell⟩ := World.cells?_some hcc
    refine ⟨cs', hR, fun j u hj => ?_⟩
    have hjl : j < P.cellsOf e := by
      rcases Nat.lt_or_ge j cs'.length with h | h
      · omega
      · simp [List.getElem?_eq_none h] at hj
    have := hcell j hjl
    rw [add_none, add_none, hj, hc] at this
    exact this
/-- The fields from here on. -/
def FieldsB (P : Program) (N : Nat) (fs : List Field) {α : Type} (E : Enc α) : Prop :=
  ∀ (H : Type) (enc : TypeId × Value → H) (w : World) (cs : List Value), cs.length = N →
    (∀ f ∈ fs, ∃ (n : Nat) (x : DataW H × List MemPlace), DataW.trod enc P w 0 (fun _ => true) true n f.type ((cs.drop f.offset).take (P.cellsOf f.type)) = some x) →
    ∃ a, E.R [] w (cs.drop ((fs.head?.map (·.offset)).getD 0)) a
theorem fb_last {P : Program} {N : Nat} {f : Field} {α : Type} {E : Enc α} (B : Bridge P f.type E) (hN : f.offset + P.cellsOf f.type = N) : FieldsB P N [f] E := fun H enc w cs hl h => by
  obtain ⟨n, x, hx⟩ := h f (by simp)
  have : (cs.drop f.offset).take (P.cellsOf f.type) = cs.drop f.offset := List.take_of_length_le (by rw [List.length_drop]; omega)
  rw [this] at hx
  exact B H enc w n _ x hx
theorem fb_cons {P : Program} {N : Nat} {f g : Field} {r : List Field} {α β : Type} {E : Enc α} {F : Enc β} (B : Bridge P f.type E) (hN : f.offset + P.cellsOf f.type = g.offset) (R : FieldsB P N (g :: r) F) : FieldsB P N (f :: g :: r) (prodE E F) :=
  fun H enc w cs hl h => by
    obtain ⟨n, x, hx⟩ := h f (by simp)
    obtain ⟨a, ha⟩ := B H enc w n _ x hx
    obtain ⟨b, hb⟩ := R H enc w cs hl fun f' hf' => h f' (List.mem_cons_of_mem _ hf')
    refine ⟨(a, b), (cs.drop f.offset).take (P.cellsOf f.type), cs.drop g.offset, ?_, ha, hb⟩
    show cs.drop f.offset = _
    rw [← hN, ← List.drop_drop, List.take_append_drop]
theorem bridge_struct {P : Program} {t : TypeId} {f : Field} {r : List Field} {α : Type} {E : Enc α} (ht : P.underlying t = some (.struct (f :: r).toArray)) (h0 : f.offset = 0) (F : FieldsB P (P.cellsOf t) (f :: r) E) : Bridge P t E := fun H enc w n cs x h => by
  obtain ⟨xs, m, _, _, hl, hlen, hf⟩ := DataW.trod_struct ht h
  obtain ⟨a, ha⟩ := F H enc w cs hl fun g hg => by
    obtain ⟨i, hi, rfl⟩ := List.getElem_of_mem hg
    have hi' : i < xs.length := by rw [hlen]; simpa using hi
    have := hf i (f :: r)[i] (by simp [List.getElem?_eq_getElem hi])
    rw [List.getElem?_eq_getElem hi'] at this
    exact ⟨m, _, this⟩
  exact ⟨a, by simpa [h0] using ha⟩
/-- An argument, opened. -/
theorem open_arg {P : Program} {t : TypeId} {α : Type} {E : Enc α} (B : Bridge P t E) {H : Type} {enc : TypeId × Value → H} {w : World} {v : Value} {d : DataW H} {p : List MemPlace} (h : DataW.Trod enc P w 0 (fun _ => true) true t v d p) : ∃ a, E.R [] w v.cells.toList a := by
  obtain ⟨n, hn⟩ := h
  exact B H enc w n _ _ hn
end Go.Sx
