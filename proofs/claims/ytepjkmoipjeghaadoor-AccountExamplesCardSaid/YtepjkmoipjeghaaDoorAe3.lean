/-
  Part 3 of the texts that the statement's proof stands on: what memory holds, how code is walked, what the functions reckon. In the order in which they build.
-/
import Derived.Maps.RangeRun
import Derived.Test.YtepjkmoipjeghaaDoorProg
import Derived.Test.YtepjkmoipjeghaaDoorAe2
set_option linter.unusedVariables false
set_option linter.unusedSectionVars false
namespace Go.Sx
open Go Go.RowKit Go.ChangeMaps
variable [Trk]
/-! The plain side. -/
abbrev FMap (κ α : Type) := κ → Option α
section
variable {κ α : Type}
def fnone : FMap κ α := fun _ => none
def fput [DecidableEq κ] (f : FMap κ α) (a : κ) (z : α) : FMap κ α := fun k => if k = a then some z else f k
def fdel [DecidableEq κ] (f : FMap κ α) (a : κ) : FMap κ α := fun k => if k = a then none else f k
/-- A list of all that a map holds, each key once. -/
def Lists (f : FMap κ α) (l : List (κ × α)) : Prop := (l.map (·.1)).Nodup ∧ ∀ a y, (a, y) ∈ l ↔ f a = some y
theorem Lists.perm {f : FMap κ α} {l l' : List (κ × α)} (h : Lists f l) (hp : l'.Perm l) : Lists f l' :=
  ⟨(hp.map _).nodup_iff.2 h.1, fun a y => hp.mem_iff.trans (h.2 a y)⟩
theorem Lists.nil : Lists (fnone : FMap κ α) [] := ⟨List.nodup_nil, fun a y => by simp [fnone]⟩
theorem Lists.none {f : FMap κ α} {l : List (κ × α)} (h : Lists f l) {a : κ} (ha : ∀ x ∈ l, x.1 ≠ a) : f a = none := by
  cases hf : f a with
  | none => rfl
  | some y => exact absurd rfl (ha _ ((h.2 a y).2 hf))
theorem Lists.push [DecidableEq κ] {f : FMap κ α} {l : List (κ × α)} (h : Lists f l) {a : κ} (z : α) (ha : ∀ x ∈ l, x.1 ≠ a) : Lists (fput f a z) (l ++ [(a, z)]) := by
  refine ⟨?_, fun k y => ?_⟩
  · rw [List.map_append, List.nodup_append]
    refine ⟨h.1, by simp, fun x hx y hy => ?_⟩
    obtain ⟨p, hp, rfl⟩ := List.mem_map.1 hx
    have : y = a := by simpa using hy
    rw [this]; exact ha p hp
  · rw [List.mem_append, h.2]
    by_cases e : k = a
    · subst e
      have h0 : f k = Option.none := h.none ha
      simp [fput, h0, eq_comm]
    · simp [fput, e]
theorem key_uniq {l : List (κ × α)} (hn : (l.map (·.1)).Nodup) {i j : Nat} {x y : κ × α} (hi : l[i]? = some x) (hj : l[j]? = some y) (he : x.1 = y.1) : i = j := by
  have hi' : (l.map (·.1))[i]? = some x.1 := by simp [hi]
  have hj' : (l.map (·.1))[j]? = some x.1 := by simp [hj, he]
  have li : i < (l.map (·.1)).length := by
    rcases Nat.lt_or_ge i (l.map (·.1)).length with h | h
    · exact h
    · rw [List.getElem?_eq_none h] at hi'; cases hi'
  exact (List.getElem?_inj li hn).1 (hi'.trans hj'.symm)
theorem Lists.set [DecidableEq κ] {f : FMap κ α} {l : List (κ × α)} (h : Lists f l) {j : Nat} {a : κ} {y : α} (hj : l[j]? = some (a, y)) (z : α) : Lists (fput f a z) (l.set j (a, z)) := by
  have hlt : j < l.length := by
    rcases Nat.lt_or_ge j l.length with h | h
    · exact h
    · rw [List.getElem?_eq_none h] at hj; cases hj
  refine ⟨?_, fun k w => ?_⟩
  · have : (l.set j (a, z)).map (·.1) = l.map (·.1) := by
      rw [List.map_set]
      refine List.ext_getElem? fun i => ?_
      rw [List.getElem?_set]
      split
      · rename_i e
        subst e
        simp [hlt]
        have := List.getElem?_eq_getElem hlt
        rw [hj] at this
        exact (congrArg Prod.fst (Option.some.inj this))
      · rfl
    rw [this]; exact h.1
  · constructor
    · intro hm
      obtain ⟨i, hi⟩ := List.getElem?_of_mem hm
      rw [List.getElem?_set] at hi
      split at hi
      · simp at hi
        obtain ⟨rfl, rfl⟩ := hi
        simp [fput]
      · rename_i hne
        have hk : k ≠ a := fun e => hne (key_uniq h.1 hj hi (by simp [e]))
        have := (h.2 k w).1 (List.mem_of_getElem? hi)
        simpa [fput, hk] using this
    · intro hf
      by_cases e : k = a
      · subst e
        simp [fput] at hf
        subst hf
        exact List.mem_of_getElem? (i := j) (by simp [hlt])
      · simp [fput, e] at hf
        obtain ⟨i, hi⟩ := List.getElem?_of_mem ((h.2 k w).2 hf)
        refine List.mem_of_getElem? (i := i) ?_
        rw [List.getElem?_set, if_neg, hi]
        intro e2; subst e2
        rw [hj] at hi; cases hi; exact e rfl
theorem Lists.del [DecidableEq κ] {f : FMap κ α} {l : List (κ × α)} (h : Lists f l) {j : Nat} {a : κ} {y : α} (hj : l[j]? = some (a, y)) : Lists (fdel f a) (l.eraseIdx j) := by
  refine ⟨(List.Sublist.map _ (List.eraseIdx_sublist l j)).nodup h.1, fun k w => ?_⟩
  rw [List.mem_eraseIdx_iff_getElem?]
  constructor
  · rintro ⟨i, hne, hi⟩
    have hk : k ≠ a := fun e => hne (key_uniq h.1 hi hj (by simp [e]))
    have := (h.2 k w).1 (List.mem_of_getElem? hi)
    simpa [fdel, hk] using this
  · intro hf
    by_cases e : k = a
    · simp [fdel, e] at hf
    · simp [fdel, e] at hf
      obtain ⟨i, hi⟩ := List.getElem?_of_mem ((h.2 k w).2 hf)
      refine ⟨i, fun e2 => ?_, hi⟩
      subst e2; rw [hj] at hi; cases hi; exact e rfl
theorem Lists.del0 [DecidableEq κ] {f : FMap κ α} {l : List (κ × α)} (h : Lists f l) {a : κ} (ha : ∀ x ∈ l, x.1 ≠ a) : Lists (fdel f a) l := by
  have : fdel f a = f := by
    funext k
    by_cases e : k = a
    · subst e; simp [fdel, h.none ha]
    · simp [fdel, e]
  rw [this]; exact h
end
/-- What is reckoned, whatever the order in which things come. -/
def AnyR {S β : Type} (f : S → β → Option S) (l : List β) (s : S) (r : S) : Prop := ∀ l' : List β, l'.Perm l → l'.foldlM f s = some r
theorem AnyR.nil {S β : Type} {f : S → β → Option S} {s r : S} (h : AnyR f [] s r) : s = r := by
  have := h [] (List.Perm.refl _)
  simpa using this
theorem AnyR.step {S β : Type} {f : S → β → Option S} {l l' : List β} {x : β} {s r : S} (h : AnyR f l s r) (hp : l.Perm (x :: l')) : ∃ s', f s x = some s' ∧ AnyR f l' s' r := by
  have h1 : ∀ l'' : List β, l''.Perm l' → (x :: l'').foldlM f s = some r := fun l'' hl => h _ ((hl.cons x).trans hp.symm)
  have h2 := h1 l' (List.Perm.refl _)
  rw [List.foldlM_cons] at h2
  cases hf : f s x with
  | none => rw [hf] at h2; cases h2
  | some s' =>
    refine ⟨s', rfl, fun l'' hl => ?_⟩
    have h3 := h1 l'' hl
    rw [List.foldlM_cons, hf] at h3
    exact h3
open Classical in
/-- Going through a map: the answer, if it is one whatever the order. -/
noncomputable def anyM {S κ α : Type} (f : S → κ × α → Option S) (m : FMap κ α) (s : S) : Option S := if h : ∃ r, ∀ l, Lists m l → l.foldlM f s = some r then some h.choose else none
theorem anyM_out {S κ α : Type} {f : S → κ × α → Option S} {m : FMap κ α} {s r : S} (h : anyM f m s = some r) {l : List (κ × α)} (hl : Lists m l) : AnyR f l s r := by
  unfold anyM at h
  split at h
  · rename_i h1
    rw [← Option.some.inj h]
    exact fun l' hp => h1.choose_spec l' (hl.perm hp)
  · cases h
theorem anyM_of {S κ α : Type} {f : S → κ × α → Option S} {m : FMap κ α} {s r : S} {l0 : List (κ × α)} (h0 : Lists m l0) (h : ∀ l, Lists m l → l.foldlM f s = some r) : anyM f m s = some r := by
  unfold anyM
  rw [dif_pos ⟨r, h⟩]
  have h1 := (⟨r, h⟩ : ∃ r, ∀ l, Lists m l → l.foldlM f s = some r).choose_spec l0 h0
  rw [h l0 h0] at h1
  exact h1.symm
/-! The memory's side. -/
/-- How keys look, and what asking for them does. -/
structure Ky (P : Program) (kt : TypeId) (κ : Type) where
  val : κ → Value
  ok : κ → Prop
  inj : ∀ {a b : κ}, ok a → ok b → val a = val b → a = b
  check : ∀ {a : κ}, ok a → ∀ (w : World) (em : Bool), (Instr.checkKey em 10000 kt (val a)).run P w = .ok () w
  find : ∀ {a : κ}, ok a → ∀ (es : List MapEntry), (∀ e ∈ es, ∃ b, ok b ∧ e.key = val b) → ((∀ w, (Instr.findKey kt (val a) es).run P w = .ok none w) ∧ ∀ e ∈ es, e.key ≠ val a) ∨ ∃ j e, (∀ w, (Instr.findKey kt (val a) es).run P w = .ok (some (j, e.val)) w) ∧ es[j]? = some e ∧ e.key = val a
  stays : ∀ {a : κ}, ok a → ∀ w, (Instr.keyThatStays (val a) (val a)).run P w = .ok (val a) w
def intKy {P : Program} {kt : TypeId} (q : IntKind) (hk : P.underlying kt = some (.int q)) : Ky P kt Int where
  val := fun a => .int q a
  ok := InK q
  inj := fun _ _ h => by cases h; rfl
  check := fun {a} _ w em => MapKept.run_checkKey (d := .int q) (k := .int q a) hk rfl em 9999
  find := fun {a} _ es hes => by
    have hks : ∀ x ∈ es, MapKept.IsKey (.int q) x.key := fun x hx => by
      obtain ⟨b, _, hb⟩ := hes x hx
      rw [hb]; exact rfl
    rcases MapKept.findNow_spec (d := .int q) (k := .int q a) rfl es 0 hks with ⟨h1, h2⟩ | ⟨j, e, h1, h2, h3⟩
    · exact .inl ⟨fun w => MapKept.run_findKey hk h1, h2⟩
    · exact .inr ⟨j, e, fun w => by simpa using MapKept.run_findKey (w := w) hk h1, h2, h3⟩
  stays := fun {a} _ w => MapKept.run_keyThatStays (d := .int q) (k := .int q a) rfl
/-- Stamps of entries: none twice, all before now. -/
def Stp (es : Array MapEntry) (c : Nat) : Prop := (es.toList.map (·.born)).Nodup ∧ ∀ x ∈ es.toList, x.born < c
section
variable {P : Program} {kt : TypeId} {κ α : Type} {K : Ky P kt κ} {E : Enc α} {ag : Bool}
def EntK (K : Ky P kt κ) (E : Enc α) (ag : Bool) (M : List Nat) (w : World) : List MapEntry → List (κ × α) → Prop
  | [], [] => True
  | e :: es, x :: xs => (e.key = K.val x.1 ∧ K.ok x.1) ∧ Vl E ag M w e.val x.2 ∧ EntK K E ag M w es xs
  | _, _ => False
theorem EntK.adv {M M' : List Nat} {w w' : World} (ha : Adv M M' w w') : ∀ {es : List MapEntry} {xs : List (κ × α)}, EntK K E ag M w es xs → EntK K E ag M' w' es xs
  | [], [], h => h
  | _ :: _, _ :: _, ⟨h1, h2, h3⟩ => ⟨h1, h2.adv ha, EntK.adv ha h3⟩
  | [], _ :: _, h => h.elim
  | _ :: _, [], h => h.elim
theorem EntK.mon {M M' : List Nat} {w : World} (ha : ∀ b ∈ M', b ∈ M ∨ w.heap.size ≤ b) : ∀ {es : List MapEntry} {xs : List (κ × α)}, EntK K E ag M w es xs → EntK K E ag M' w es xs
  | [], [], h => h
  | _ :: _, _ :: _, ⟨h1, h2, h3⟩ => ⟨h1, h2.mon ha, EntK.mon ha h3⟩
  | [], _ :: _, h => h.elim
  | _ :: _, [], h => h.elim
theorem EntK.len {M : List Nat} {w : World} : ∀ {es : List MapEntry} {xs : List (κ × α)}, EntK K E ag M w es xs → es.length = xs.length
  | [], [], _ => rfl
  | _ :: _, _ :: _, ⟨_, _, h⟩ => by simp [EntK.len h]
  | [], _ :: _, h => h.elim
  | _ :: _, [], h => h.elim
theorem EntK.at {M : List Nat} {w : World} : ∀ {es : List MapEntry} {xs : List (κ × α)}, EntK K E ag M w es xs → ∀ {j : Nat} {e : MapEntry}, es[j]? = some e → ∃ x, xs[j]? = some x ∧ e.key = K.val x.1 ∧ K.ok x.1 ∧ Vl E ag M w e.val x.2
  | [], _, _, j, e, he => by simp at he
  | e :: es, x :: xs, ⟨h1, h2, h3⟩, 0, e', he => by simp at he; subst he; exact ⟨x, rfl, h1.1, h1.2, h2⟩
  | e :: es, x :: xs, ⟨h1, h2, h3⟩, j + 1, e', he => by simpa using EntK.at h3 (j := j) (e := e') (by simpa using he)
  | _ :: _, [], h, _, _, _ => h.elim
theorem EntK.back {M : List Nat} {w : World} : ∀ {es : List MapEntry} {xs : List (κ × α)}, EntK K E ag M w es xs → ∀ x ∈ xs, ∃ e ∈ es, e.key = K.val x.1
  | [], [], _, x, hx => by cases hx
  | e :: es, x :: xs, ⟨h1, h2, h3⟩, y, hy => by
    rcases List.mem_cons.1 hy with rfl | hy
    · exact ⟨e, by simp, h1.1⟩
    · obtain ⟨e', h4, h5⟩ := EntK.back h3 y hy
      exact ⟨e', List.mem_cons_of_mem _ h4, h5⟩
  | [], _ :: _, h, _, _ => h.elim
  | _ :: _, [], h, _, _ => h.elim
theorem EntK.keys {M : List Nat} {w : World} {es : List MapEntry} {xs : List (κ × α)} (h : EntK K E ag M w es xs) : ∀ e ∈ es, ∃ b, K.ok b ∧ e.key = K.val b := fun e he => by
  obtain ⟨j, hj⟩ := List.getElem?_of_mem he
  obtain ⟨x, _, h1, h2, _⟩ := h.at hj
  exact ⟨x.1, h2, h1⟩
theorem EntK.push {M : List Nat} {w : World} {a : κ} {v : Value} {z : α} {c : Nat} (ha : K.ok a) (hv : Vl E ag M w v z) : ∀ {es : List MapEntry} {xs : List (κ × α)}, EntK K E ag M w es xs → EntK K E ag M w (es ++ [⟨K.val a, v, c⟩]) (xs ++ [(a, z)])
  | [], [], _ => ⟨⟨rfl, ha⟩, hv, trivial⟩
  | _ :: _, _ :: _, ⟨h1, h2, h3⟩ => ⟨h1, h2, EntK.push ha hv h3⟩
  | [], _ :: _, h => h.elim
  | _ :: _, [], h => h.elim
theorem EntK.set {M : List Nat} {w : World} {a : κ} {v : Value} {z : α} (ha : K.ok a) (hv : Vl E ag M w v z) : ∀ {es : List MapEntry} {xs : List (κ × α)} (j : Nat), EntK K E ag M w es xs → EntK K E ag M w (es.modify j fun e => { e with key := K.val a, val := v }) (xs.set j (a, z))
  | [], [], _, _ => by simp [EntK]
  | _ :: _, _ :: _, 0, ⟨h1, h2, h3⟩ => ⟨⟨rfl, ha⟩, hv, h3⟩
  | _ :: _, _ :: _, j + 1, ⟨h1, h2, h3⟩ => ⟨h1, h2, EntK.set ha hv j h3⟩
  | [], _ :: _, _, h => h.elim
  | _ :: _, [], _, h => h.elim
theorem EntK.erase {M : List Nat} {w : World} : ∀ {es : List MapEntry} {xs : List (κ × α)} (j : Nat), EntK K E ag M w es xs → EntK K E ag M w (es.eraseIdx j) (xs.eraseIdx j)
  | [], [], _, _ => by simp [EntK]
  | _ :: _, _ :: _, 0, ⟨_, _, h3⟩ => h3
  | _ :: _, _ :: _, j + 1, ⟨h1, h2, h3⟩ => ⟨h1, h2, EntK.erase j h3⟩
  | [], _ :: _, _, h => h.elim
  | _ :: _, [], _, h => h.elim
/-- What a block that is a map holds. -/
def MapH (K : Ky P kt κ) (E : Enc α) (ag : Bool) (M : List Nat) (w : World) (b : Nat) (f : FMap κ α) : Prop :=
  ∃ es c xs, w.heap[b]? = some (.map es c) ∧ Stp es c ∧ EntK K E ag M w es.toList xs ∧ Lists f xs
/-- A map of one's own. -/
def mapO (K : Ky P kt κ) (E : Enc α) (ag : Bool) (b : Nat) (f : FMap κ α) : Res where
  fp := [b]
  mu := []
  holds := fun M w => MapH K E ag M w b f
  adv := fun ha hb h => by
    obtain ⟨es, c, xs, h1, h2, h3, h4⟩ := h
    exact ⟨es, c, xs, (hb b (by simp)).trans h1, h2, h3.adv ha, h4⟩
  lt := fun h x hx => by
    obtain ⟨es, c, xs, h1, _⟩ := h
    have : x = b := by simpa using hx
    subst this; exact heap_lt h1
/-- A map that is read. -/
def RdF (K : Ky P kt κ) (E : Enc α) (ag : Bool) (M : List Nat) (w : World) (v : Value) (f : FMap κ α) : Prop := ∃ b, v = .map (some b) ∧ b ∉ M ∧ MapH K E ag M w b f
theorem RdF.adv {M M' : List Nat} {w w' : World} {v : Value} {f : FMap κ α} (h : RdF K E ag M w v f) (ha : Adv M M' w w') : RdF K E ag M' w' v f := by
  obtain ⟨b, rfl, hb, es, c, xs, h1, h2, h3, h4⟩ := h
  have hlt := heap_lt h1
  exact ⟨b, rfl, fun hb' => (ha.new b hb').elim hb (fun h => absurd hlt (by omega)), es, c, xs, (ha.kp.block b hlt hb).trans h1, h2, h3.adv ha, h4⟩
theorem RdF.oneC {M : List Nat} {w : World} {v : Value} {f : FMap κ α} (h : RdF K E ag M w v f) : v.oneCell' = true := by
  obtain ⟨b, rfl, _⟩ := h; rfl
variable {N : Nat} {ops : Array Oper} {q : Md} {rest : List Oper} {ds : List Deferred} {L : Env} {w w0 : World} {A B : Out} {X : Nat → Out} {Z : List PanicEntry → Out} {d : Nat} {ty : TypeId} {pos : String} {af : Array Edge} {Mu M : List Nat} {σ : List Res}
theorem Hp.mapAt' {b : Nat} {f : FMap κ α} (h : Hp w0 Mu M σ w) (i : Nat) (hi : σ[i]? = some (mapO K E ag b f)) : MapH K E ag (mm σ M) w b f := h.get i hi
/-- A map of one's own that is read from now on. -/
theorem Hp.freezeM (h : Hp w0 Mu M σ w) (i : Nat) {b : Nat} {f : FMap κ α} (hi : σ[i]? = some (mapO K E ag b f)) : RdF K E ag (mm (σ.eraseIdx i) M) w (.map (some b)) f := by
  obtain ⟨es, c, xs, h1, h2, h3, h4⟩ := h.mapAt' i hi
  exact ⟨b, rfl, h.apart i hi b (by simp [mapO]), es, c, xs, h1, h2, h3.mon fun x hx => .inl (mm_sub (List.eraseIdx_sublist σ i) hx), h4⟩
/-- Lent while others are not written. -/
theorem Hp.lendF (h : Hp w0 Mu M σ w) (l : List Nat) (i : Nat) {b : Nat} {f : FMap κ α} (hl : l.contains i = false) (hi : σ[i]? = some (mapO K E ag b f)) : RdF K E ag (mm (Sx.sel σ l) M) w (.map (some b)) f := by
  obtain ⟨es, c, xs, h1, h2, h3, h4⟩ := h.mapAt' i hi
  refine ⟨b, rfl, fun hb' => ?_, es, c, xs, h1, h2, h3.mon fun x hx => .inl (mm_sel hx), h4⟩
  have hbf : b ∈ (mapO K E ag b f).fp := by simp [mapO]
  rcases mem_mm.1 hb' with ⟨s, hs, hb'⟩ | hb'
  · obtain ⟨j, hj, hs⟩ := mem_sel hs
    refine h.dis i j _ s hi hs (fun e => ?_) b hbf hb'
    subst e
    simp at hl; exact hl hj
  · exact h.sepM _ (List.mem_of_getElem? hi) b hbf hb'
theorem MapH.lookup {b : Nat} {f : FMap κ α} {t e : TypeId} {a : κ} {z0 : α} {zv : Value} (h : MapH K E ag M w b f) (ha : K.ok a) (ht : P.underlying t = some (.map kt e)) (hz : ∀ w, (zeroValue e).run P w = .ok zv w) (hzR : Vl E ag M w zv z0) :
    ∃ v, (∀ cm w', w'.heap[b]? = w.heap[b]? → (Instr.lookup t (.map (some b)) (K.val a) cm).run P w' = .ok (if cm then .tuple #[v, .bool (f a).isSome] else v) w') ∧ Vl E ag M w v ((f a).getD z0) := by
  obtain ⟨es, c, xs, h1, h2, h3, h4⟩ := h
  rcases K.find ha es.toList h3.keys with ⟨g1, g2⟩ | ⟨j, e', g1, g2, g3⟩
  · have hf : f a = none := h4.none fun x hx he => by
      obtain ⟨e', h5, h6⟩ := h3.back x hx
      exact g2 e' h5 (by rw [h6, he])
    refine ⟨zv, fun cm w' hw => ?_, by rw [hf]; exact hzR⟩
    have h1 := hw.trans h1
    cases cm <;> simp [Instr.lookup, run_underlying ht, MapKept.run_getObj_map h1, K.check ha, g1, hz, hf]
  · obtain ⟨x, hx, hk, hok, hv⟩ := h3.at g2
    have hxa : x.1 = a := K.inj hok ha (by rw [← hk, g3])
    have hf : f a = some x.2 := (h4.2 a x.2).1 (by rw [← hxa]; exact List.mem_of_getElem? hx)
    refine ⟨e'.val, fun cm w' hw => ?_, by rw [hf]; exact hv⟩
    have h1 := hw.trans h1
    cases cm <;> simp [Instr.lookup, run_underlying ht, MapKept.run_getObj_map h1, K.check ha, g1, hf]
/-- A map that is made. -/
theorem y_mkF (K : Ky P kt κ) (E : Enc α) (ag : Bool) {t : TypeId} (hI : Hp w0 Mu M σ w) (hN : Nat.blt d N = true)
    (h : ∀ b w', Hp w0 Mu M (mapO K E ag b fnone :: σ) w' → Adv (mm σ M) (mm (mapO K E ag b fnone :: σ) M) w w' → Reg P N ops .seq rest ds ((d, .map (some b)) :: L) w' A B X Z) :
    Reg P N ops .seq (⟨some d, .makeMap t none, ty, pos, af, none⟩ :: rest) ds L w A B X Z := by
  have hx : Ext w (w.alloc (.map #[] 0)) := Kp.alloc _ _ _
  have hn : ∀ b ∈ (mapO K E ag w.heap.size fnone).fp, w.heap.size ≤ b ∧ b < (w.alloc (.map #[] 0)).heap.size := fun b hb => by
    have : b = w.heap.size := by simpa [mapO] using hb
    subst this; exact ⟨Nat.le_refl _, by show w.heap.size < (w.heap.push _).size; simp⟩
  refine Reg.eff (.map (some w.heap.size)) (w.alloc (.map #[] 0)) rfl rfl hN (fun a ha => ?_) (h _ _ (hI.add hx hn rfl ⟨#[], 0, [], heap_alloc_new w _, ⟨by simp, fun x hx => by simp at hx⟩, trivial, Lists.nil⟩) (hI.addA hx hn))
  have hr : (Instr.makeMap t none).run P w = .ok (.map (some w.heap.size)) (w.alloc (.map #[] 0)) := rfl
  simp [execOp, hr]
/-- Asked for, in one's own and in one that is read, with the answer whether it is there. -/
theorem y_lkF (i : Nat) {b : Nat} {f : FMap κ α} {z0 : α} {zv : Value} {x y : Operand} {t e : TypeId} {a : κ} (hI : Hp w0 Mu M σ w) (hi : σ[i]? = some (mapO K E ag b f))
    (hx : ev L x = some (.map (some b))) (hy : ev L y = some (K.val a)) (ha : K.ok a) (ht : P.underlying t = some (.map kt e)) (hz : ∀ w, (zeroValue e).run P w = .ok zv w) (hzR : Vl E ag (mm σ M) w zv z0) (hN : Nat.blt d N = true)
    (h : ∀ v, Vl E ag (mm σ M) w v ((f a).getD z0) → Reg P N ops .seq rest ds ((d, .tuple #[v, .bool (f a).isSome]) :: L) w A B X Z) :
    Reg P N ops .seq (⟨some d, .lookup t x y true, ty, pos, af, none⟩ :: rest) ds L w A B X Z := by
  obtain ⟨v, h1, h2⟩ := (hI.mapAt' i hi).lookup ha ht hz hzR
  refine Reg.eff _ w rfl rfl hN (fun A hA => ?_) (h v h2)
  simp [execOp, hA.eval hx, hA.eval hy, h1 _ w rfl]
theorem y_lkF1 (i : Nat) {b : Nat} {f : FMap κ α} {z0 : α} {zv : Value} {x y : Operand} {t e : TypeId} {a : κ} (hI : Hp w0 Mu M σ w) (hi : σ[i]? = some (mapO K E ag b f))
    (hx : ev L x = some (.map (some b))) (hy : ev L y = some (K.val a)) (ha : K.ok a) (ht : P.underlying t = some (.map kt e)) (hz : ∀ w, (zeroValue e).run P w = .ok zv w) (hzR : Vl E ag (mm σ M) w zv z0) (hN : Nat.blt d N = true)
    (h : ∀ v, Vl E ag (mm σ M) w v ((f a).getD z0) → Reg P N ops .seq rest ds ((d, v) :: L) w A B X Z) :
    Reg P N ops .seq (⟨some d, .lookup t x y false, ty, pos, af, none⟩ :: rest) ds L w A B X Z := by
  obtain ⟨v, h1, h2⟩ := (hI.mapAt' i hi).lookup ha ht hz hzR
  refine Reg.eff _ w rfl rfl hN (fun A hA => ?_) (h v h2)
  simp [execOp, hA.eval hx, hA.eval hy, h1 _ w rfl]
theorem s_lkF {f : FMap κ α} {z0 : α} {mv zv : Value} {x y : Operand} {t e : TypeId} {a : κ} (hm : RdF K E ag M w mv f)
    (hx : ev L x = some mv) (hy : ev L y = some (K.val a)) (ha : K.ok a) (ht : P.underlying t = some (.map kt e)) (hz : ∀ w, (zeroValue e).run P w = .ok zv w) (hzR : Vl E ag M w zv z0) (hN : Nat.blt d N = true)
    (h : ∀ v, Vl E ag M w v ((f a).getD z0) → Reg P N ops q rest ds ((d, .tuple #[v, .bool (f a).isSome]) :: L) w A B X Z) :
    Reg P N ops q (⟨some d, .lookup t x y true, ty, pos, af, none⟩ :: rest) ds L w A B X Z := by
  obtain ⟨b, rfl, _, hH⟩ := hm
  obtain ⟨v, h1, h2⟩ := hH.lookup ha ht hz hzR
  have hlt : b < w.heap.size := by
    obtain ⟨es, c, xs, h3, _⟩ := hH
    exact heap_lt h3
  refine Reg.val _ rfl rfl hN (fun A hA w' hw' => ?_) (h v h2)
  have h3 := h1 true w' (hw'.ext.block b hlt (by simp))
  simp at h3
  simp [execOp, hA.eval hx, hA.eval hy, h3]
theorem s_lkF1 {f : FMap κ α} {z0 : α} {mv zv : Value} {x y : Operand} {t e : TypeId} {a : κ} (hm : RdF K E ag M w mv f)
    (hx : ev L x = some mv) (hy : ev L y = some (K.val a)) (ha : K.ok a) (ht : P.underlying t = some (.map kt e)) (hz : ∀ w, (zeroValue e).run P w = .ok zv w) (hzR : Vl E ag M w zv z0) (hN : Nat.blt d N = true)
    (h : ∀ v, Vl E ag M w v ((f a).getD z0) → Reg P N ops q rest ds ((d, v) :: L) w A B X Z) :
    Reg P N ops q (⟨some d, .lookup t x y false, ty, pos, af, none⟩ :: rest) ds L w A B X Z := by
  obtain ⟨b, rfl, _, hH⟩ := hm
  obtain ⟨v, h1, h2⟩ := hH.lookup ha ht hz hzR
  have hlt : b < w.heap.size := by
    obtain ⟨es, c, xs, h3, _⟩ := hH
    exact heap_lt h3
  refine Reg.val _ rfl rfl hN (fun A hA w' hw' => ?_) (h v h2)
  have h3 := h1 false w' (hw'.ext.block b hlt (by simp))
  simp at h3
  simp [execOp, hA.eval hx, hA.eval hy, h3]
/-- The address of an array's element. -/
theorem s_iaG {t e n : Nat} {x y : Operand} {b : Nat} {k k2 : IntKind} {i z : Int} {xs : List Int} {M : List Nat} (hC : RdC M w b 0 (xs.map (Value.int k2))) (hx : ev L x = some (.pointer (some ⟨b, 0, none⟩))) (hy : ev L y = some (.int k i)) (hi : ixo xs i = some z) (ht : P.underlying t = some (.array n e)) (hn : n = xs.length) (hs : ∀ w, (sizeOf e).run P w = .ok 1 w) (hN : Nat.blt d N = true)
    (h : RdC M w b i.toNat [.int k2 z] → Reg P N ops q rest ds ((d, .pointer (some ⟨b, i.toNat, none⟩)) :: L) w A B X Z) : Reg P N ops q (⟨some d, .indexAddr t x y, ty, pos, af, none⟩ :: rest) ds L w A B X Z := by
  obtain ⟨h0, h1, hz⟩ := ixo_out hi
  have hin : i.toNat < xs.length := by omega
  subst hn
  have hcell : RdC M w b i.toNat [.int k2 z] := ⟨hC.out, hC.lt, fun j v hj => by
    cases j with
    | zero =>
      simp at hj; subst hj
      have := hC.cells i.toNat (.int k2 z) (by simp [hz])
      simpa using this
    | succ j => simp at hj⟩
  refine Reg.val (.pointer (some ⟨b, i.toNat, none⟩)) rfl rfl hN (fun a ha w' _ => ?_) (h hcell)
  simp [execOp, ha.eval hx, ha.eval hy, Instr.indexAt, asIntOf, run_underlying ht, Instr.sureAddr, h0, h1, hs, add_none]
theorem Kp.setB {b : Nat} {o o' : Obj} (h1 : w.heap[b]? = some o) : Kp [b] w (setBlock w b o') :=
  ⟨rfl, rfl, rfl, by simp [setBlock], fun j hj hm => (MapKept.heap_set (o' := o') h1).2 j (by simpa using hm), fun _ => Nat.le_refl _⟩
variable [DecidableEq κ]
/-- An entry laid. -/
theorem y_upF (i : Nat) {b : Nat} {f : FMap κ α} {z : α} {v : Value} {x y u : Operand} {t e : TypeId} {a : κ} (hI : Hp w0 Mu M σ w) (hi : σ[i]? = some (mapO K E ag b f))
    (hx : ev L x = some (.map (some b))) (hy : ev L y = some (K.val a)) (ha : K.ok a) (hu : ev L u = some v) (hv : Vl E ag (mm σ M) w v z) (ht : P.underlying t = some (.map kt e))
    (h : ∀ w', Hp w0 Mu M (σ.set i (mapO K E ag b (fput f a z))) w' → Adv (mm σ M) (mm (σ.set i (mapO K E ag b (fput f a z))) M) w w' → Reg P N ops .seq rest ds L w' A B X Z) :
    Reg P N ops .seq (⟨none, .mapUpdate t x y u, ty, pos, af, none⟩ :: rest) ds L w A B X Z := by
  obtain ⟨es, c, xs, h1, h2, h3, h4⟩ := hI.mapAt' i hi
  have key' : ∃ es' c' xs', (Instr.mapUpdate t (.map (some b)) (K.val a) v).run P w = .ok () (setBlock w b (.map es' c')) ∧ Stp es' c' ∧ EntK K E ag (mm σ M) w es'.toList xs' ∧ Lists (fput f a z) xs' := by
    rcases K.find ha es.toList h3.keys with ⟨g1, g2⟩ | ⟨j, e', g1, g2, g3⟩
    · refine ⟨es.push ⟨K.val a, v, c⟩, c + 1, xs ++ [(a, z)], ?_, ⟨?_, fun x hx => ?_⟩, ?_, h4.push z fun x hx he => ?_⟩
      · simp [Instr.mapUpdate, run_underlying ht, MapKept.run_getObj_map h1, K.check ha, g1, MapKept.run_setObj_map _ h1, Result.andThen, setBlock]
      · rw [Array.toList_push, List.map_append, List.nodup_append]
        refine ⟨h2.1, by simp, fun x hx y hy => ?_⟩
        obtain ⟨p, hp, rfl⟩ := List.mem_map.1 hx
        have := h2.2 p hp
        have : y = c := by simpa using hy
        omega
      · rw [Array.toList_push, List.mem_append] at hx
        rcases hx with hx | hx
        · have := h2.2 x hx; omega
        · have : x = ⟨K.val a, v, c⟩ := by simpa using hx
          subst this; exact Nat.lt_succ_self c
      · rw [Array.toList_push]; exact h3.push ha hv
      · obtain ⟨e', h5, h6⟩ := h3.back x hx
        exact g2 e' h5 (by rw [h6, he])
    · obtain ⟨x', hx', hk, hok, hv'⟩ := h3.at g2
      have hxa : x'.1 = a := K.inj hok ha (by rw [← hk, g3])
      have g4 : es[j]? = some e' := by simpa using g2
      refine ⟨es.modify j fun e => { e with key := K.val a, val := v }, c, xs.set j (a, z), ?_, ⟨?_, fun x hx => ?_⟩, ?_, h4.set (y := x'.2) (by rw [hx', ← hxa]) z⟩
      · simp [Instr.mapUpdate, run_underlying ht, MapKept.run_getObj_map h1, K.check ha, g1, g4, g3, K.stays ha, MapKept.run_setObj_map _ h1, Result.andThen, setBlock]
      · have : ((es.modify j fun e => { e with key := K.val a, val := v }).toList.map (·.born)) = es.toList.map (·.born) := by
          rw [Array.toList_modify]
          refine List.ext_getElem? fun i => ?_
          simp only [List.getElem?_map, List.getElem?_modify]
          by_cases e : j = i
          · subst e; cases es.toList[j]? <;> simp
          · simp [e]
        rw [this]; exact h2.1
      · rw [Array.toList_modify] at hx
        obtain ⟨m, hm⟩ := List.getElem?_of_mem hx
        rw [List.getElem?_modify] at hm
        cases hq : es.toList[m]? with
        | none => rw [hq] at hm; cases hm
        | some e0 =>
          rw [hq] at hm
          have := h2.2 e0 (List.mem_of_getElem? hq)
          by_cases e : j = m
          · simp [e] at hm; subst hm; exact this
          · simp [e] at hm; subst hm; exact this
      · rw [Array.toList_modify]; exact h3.set ha hv j
  obtain ⟨es', c', xs', hr, hS, hE, hL⟩ := key'
  have hkp : Kp [b] w (setBlock w b (.map es' c')) := Kp.setB h1
  have hn : ∀ b' ∈ (mapO K E ag b (fput f a z)).fp, b' ∈ (mapO K E ag b f).fp ∨ w.heap.size ≤ b' := fun b' hb => .inl hb
  refine Reg.sto (setBlock w b (.map es' c')) rfl rfl (fun A hA => ?_) (h _ (hI.upd i hi hkp hn rfl fun M' hM' => ⟨es', c', xs', (MapKept.heap_set h1).1, hS, ?_, hL⟩) (hI.updA (r' := mapO K E ag b (fput f a z)) i hi hkp hn))
  · simp [execOp, hA.eval hx, hA.eval hy, hA.eval hu, hr]
  · have hb : b ∈ mm σ M := mem_mm.2 (.inl ⟨_, List.mem_of_getElem? hi, by simp [mapO]⟩)
    refine (hE.adv ⟨hkp.mono fun x hx => .inl ?_, fun x hx => .inl hx⟩).mon fun x hx => .inl ?_
    · have : x = b := by simpa using hx
      subst this; exact hb
    · rcases hM' x hx with h9 | h9
      · have : x = b := by simpa [mapO] using h9
        subst this; exact hb
      · exact h9
/-- An entry struck. -/
theorem y_dlF (i : Nat) {b : Nat} {f : FMap κ α} {x y : Operand} {t kt' e : TypeId} {a : κ} (hI : Hp w0 Mu M σ w) (hi : σ[i]? = some (mapO K E ag b f))
    (hx : ev L x = some (.map (some b))) (hy : ev L y = some (K.val a)) (ha : K.ok a) (ht : P.underlying t = some (.map kt e))
    (h : ∀ w', Hp w0 Mu M (σ.set i (mapO K E ag b (fdel f a))) w' → Adv (mm σ M) (mm (σ.set i (mapO K E ag b (fdel f a))) M) w w' → Reg P N ops .seq rest ds L w' A B X Z) :
    Reg P N ops .seq (⟨none, .call ⟨.builtin .delete, #[x, y], #[t, kt']⟩, ty, pos, af, none⟩ :: rest) ds L w A B X Z := by
  obtain ⟨es, c, xs, h1, h2, h3, h4⟩ := hI.mapAt' i hi
  have key' : ∃ es' xs', (∀ ty, (Builtin.delete_ #[t, kt'] ty #[.map (some b), K.val a]).run P w = .ok (.tuple #[]) (setBlock w b (.map es' c))) ∧ Stp es' c ∧ EntK K E ag (mm σ M) w es'.toList xs' ∧ Lists (fdel f a) xs' := by
    rcases K.find ha es.toList h3.keys with ⟨g1, g2⟩ | ⟨j, e', g1, g2, g3⟩
    · refine ⟨es, xs, fun ty => ?_, h2, h3, h4.del0 fun x hx he => ?_⟩
      · simp [Builtin.delete_, run_underlying ht, MapKept.run_getObj_map h1, K.check ha, g1, MapKept.run_setObj_map _ h1, Result.andThen, setBlock]
      · obtain ⟨e', h5, h6⟩ := h3.back x hx
        exact g2 e' h5 (by rw [h6, he])
    · obtain ⟨x', hx', hk, hok, hv'⟩ := h3.at g2
      have hxa : x'.1 = a := K.inj hok ha (by rw [← hk, g3])
      have hlt : j < es.size := by
        rcases Nat.lt_or_ge j es.toList.length with h | h
        · simpa using h
        · rw [List.getElem?_eq_none h] at g2; cases g2
      have hel : (es.eraseIdxIfInBounds j).toList = es.toList.eraseIdx j := by simp [Array.eraseIdxIfInBounds, hlt]
      refine ⟨es.eraseIdxIfInBounds j, xs.eraseIdx j, fun ty => ?_, ⟨?_, fun x hx => ?_⟩, ?_, h4.del (y := x'.2) (by rw [hx', ← hxa])⟩
      · simp [Builtin.delete_, run_underlying ht, MapKept.run_getObj_map h1, K.check ha, g1, MapKept.run_setObj_map _ h1, Result.andThen, setBlock]
      · rw [hel]; exact (List.Sublist.map _ (List.eraseIdx_sublist _ j)).nodup h2.1
      · rw [hel] at hx; exact h2.2 x ((List.eraseIdx_sublist _ j).subset hx)
      · rw [hel]; exact h3.erase j
  obtain ⟨es', xs', hr, hS, hE, hL⟩ := key'
  have hkp : Kp [b] w (setBlock w b (.map es' c)) := Kp.setB h1
  have hn : ∀ b' ∈ (mapO K E ag b (fdel f a)).fp, b' ∈ (mapO K E ag b f).fp ∨ w.heap.size ≤ b' := fun b' hb => .inl hb
  refine Reg.eff0 (.tuple #[]) (setBlock w b (.map es' c)) rfl rfl (fun A hA => ?_) (h _ (hI.upd i hi hkp hn rfl fun M' hM' => ⟨es', c, xs', (MapKept.heap_set h1).1, hS, ?_, hL⟩) (hI.updA (r' := mapO K E ag b (fdel f a)) i hi hkp hn))
  · simp [execOp, resolve, invoke, builtin, hA.eval hx, hA.eval hy, hr]
  · have hb : b ∈ mm σ M := mem_mm.2 (.inl ⟨_, List.mem_of_getElem? hi, by simp [mapO]⟩)
    refine (hE.adv ⟨hkp.mono fun x hx => .inl ?_, fun x hx => .inl hx⟩).mon fun x hx => .inl ?_
    · have : x = b := by simpa using hx
      subst this; exact hb
    · rcases hM' x hx with h9 | h9
      · have : x = b := by simpa [mapO] using h9
        subst this; exact hb
      · exact h9
end
end Go.Sx
namespace Go.Sx
open Go Go.RowKit
variable [Trk]
theorem Vl.agg {α : Type} {E : Enc α} {M : List Nat} {w : World} {v : Value} {x : α} (h : Vl E true M w v x) : ∃ cs, E.R M w cs x ∧ v = .agg cs.toArray := by
  obtain ⟨cs, h1, h2⟩ := h
  rcases h2 with ⟨_, h2⟩ | ⟨h2, _⟩
  · exact ⟨cs, h1, h2⟩
  · cases h2
theorem Vl.one1 {α : Type} {E : Enc α} {M : List Nat} {w : World} {v : Value} {x : α} (h : Vl E false M w v x) : E.R M w [v] x := by
  obtain ⟨cs, h1, h2⟩ := h
  rcases h2 with ⟨h2, _⟩ | ⟨_, h2⟩
  · cases h2
  · exact h2 ▸ h1
theorem one_inj {v u : Value} (h : [v] = [u]) : v = u := List.singleton_inj.1 h
end Go.Sx
namespace Go.Sx
open Go Go.RowKit
variable [Trk]
/-- A function that captures nothing, by its number. -/
def fnE : Enc Nat where
  n := 1
  pos := by decide
  R := fun _ _ cs x => cs = [.func (.func x) #[] #[]]
  len := fun h => by rw [h]; rfl
  kp := fun _ h => h
  mon := fun _ h => h
  one := fun h u hu => by rw [h] at hu; simp at hu; subst hu; rfl
end Go.Sx
namespace Go.Sx
open Go Go.RowKit Go.ChangeMaps
variable [Trk]
/-- The entries that are still to come. -/
def remX {β : Type} (l : List (MapEntry × β)) (seen : Array Nat) : List β := (l.filter fun p => !seen.contains p.1.born).map (·.2)
theorem seen_push {seen : Array Nat} {n m : Nat} : (seen.push m).contains n = (seen.contains n || (n == m)) := by
  rw [Bool.eq_iff_iff]
  simp
theorem rem_cons {β : Type} {p : MapEntry × β} {seen : Array Nat} : ∀ {l : List (MapEntry × β)}, (l.map (·.1.born)).Nodup → p ∈ l → seen.contains p.1.born = false → (remX l seen).Perm (p.2 :: remX l (seen.push p.1.born))
  | [], _, h, _ => by cases h
  | q :: l, hn, h, hs => by
    rw [List.map_cons, List.nodup_cons] at hn
    have hc : ∀ n : Nat, (seen.push p.1.born).contains n = (seen.contains n || (n == p.1.born)) := fun n => seen_push
    by_cases e : q = p
    · subst e
      have hrest : remX l (seen.push q.1.born) = remX l seen := by
        unfold remX
        congr 1
        refine List.filter_congr fun x hx => ?_
        have : x.1.born ≠ q.1.born := fun e => hn.1 (e ▸ List.mem_map_of_mem (f := fun p : MapEntry × β => p.1.born) hx)
        rw [hc, beq_false_of_ne this, Bool.or_false]
      have h1 : remX (q :: l) seen = q.2 :: remX l seen := by simp only [remX, List.filter_cons, hs, Bool.not_false, if_true, List.map_cons]
      have h2 : remX (q :: l) (seen.push q.1.born) = remX l (seen.push q.1.born) := by
        simp only [remX, List.filter_cons, hc, beq_self_eq_true, Bool.or_true, Bool.not_true, Bool.false_eq_true, if_false]
      rw [h1, h2, hrest]
    · have hp : p ∈ l := (List.mem_cons.1 h).resolve_left fun e' => e e'.symm
      have ih := rem_cons hn.2 hp hs
      have hne : q.1.born ≠ p.1.born := fun e => hn.1 (e ▸ List.mem_map_of_mem (f := fun p : MapEntry × β => p.1.born) hp)
      by_cases hq : seen.contains q.1.born = true
      · have h1 : remX (q :: l) seen = remX l seen := by simp only [remX, List.filter_cons, hq, Bool.not_true, Bool.false_eq_true, if_false]
        have h2 : remX (q :: l) (seen.push p.1.born) = remX l (seen.push p.1.born) := by simp only [remX, List.filter_cons, hc, hq, Bool.true_or, Bool.not_true, Bool.false_eq_true, if_false]
        rw [h1, h2]; exact ih
      · have hq : seen.contains q.1.born = false := by simpa using hq
        have hb : (q.1.born == p.1.born) = false := beq_false_of_ne hne
        have h1 : remX (q :: l) seen = q.2 :: remX l seen := by simp only [remX, List.filter_cons, hq, Bool.not_false, if_true, List.map_cons]
        have h2 : remX (q :: l) (seen.push p.1.born) = q.2 :: remX l (seen.push p.1.born) := by simp only [remX, List.filter_cons, hc, hq, hb, Bool.or_false, Bool.not_false, if_true, List.map_cons]
        rw [h1, h2]
        exact (ih.cons q.2).trans (List.Perm.swap ..)
theorem zip_born {β : Type} : ∀ {es : List MapEntry} {xs : List β}, es.length = xs.length → (es.zip xs).map (·.1.born) = es.map (·.born)
  | [], [], _ => rfl
  | _ :: _, _ :: _, h => by simp [zip_born (Nat.succ.inj h)]
  | [], _ :: _, h => by simp at h
  | _ :: _, [], h => by simp at h
theorem zip_snd {β : Type} : ∀ {es : List MapEntry} {xs : List β}, es.length = xs.length → (es.zip xs).map (·.2) = xs
  | [], [], _ => rfl
  | _ :: _, _ :: _, h => by simp [zip_snd (Nat.succ.inj h)]
  | [], _ :: _, h => by simp at h
  | _ :: _, [], h => by simp at h
theorem rem_all {β : Type} {es : List MapEntry} {xs : List β} (h : es.length = xs.length) : remX (es.zip xs) #[] = xs := by
  unfold remX
  rw [List.filter_eq_self.2 (fun p _ => by simp)]
  exact zip_snd h
theorem rem_nil {β : Type} {es : Array MapEntry} {xs : List β} {seen : Array Nat} (h : (leftOf es seen).size = 0) : remX (es.toList.zip xs) seen = [] := by
  unfold remX
  rw [List.map_eq_nil_iff, List.filter_eq_nil_iff]
  intro p hp
  have h1 : p.1 ∈ es.toList := (List.of_mem_zip (a := p.1) (b := p.2) hp).1
  have h2 : leftOf es seen = #[] := Array.eq_empty_of_size_eq_zero h
  unfold leftOf at h2
  rw [Array.filter_eq_empty_iff] at h2
  have := h2 p.1 (by simpa using h1)
  simpa using this
section
variable {P : Program} {kt : TypeId} {κ α : Type} {K : Ky P kt κ} {E : Enc α} {ag : Bool}
/-- A map that is read, entry by entry. -/
def RdX (K : Ky P kt κ) (E : Enc α) (ag : Bool) (M : List Nat) (w : World) (b : Nat) (es : Array MapEntry) (c : Nat) (xs : List (κ × α)) : Prop :=
  b ∉ M ∧ w.heap[b]? = some (.map es c) ∧ Stp es c ∧ EntK K E ag M w es.toList xs
theorem RdX.adv {M M' : List Nat} {w w' : World} {b c : Nat} {es : Array MapEntry} {xs : List (κ × α)} (h : RdX K E ag M w b es c xs) (ha : Adv M M' w w') : RdX K E ag M' w' b es c xs := by
  obtain ⟨hb, h1, h2, h3⟩ := h
  have hlt := heap_lt h1
  exact ⟨fun hb' => (ha.new b hb').elim hb (fun h => absurd hlt (by omega)), (ha.kp.block b hlt hb).trans h1, h2, h3.adv ha⟩
theorem EntK.zip {M : List Nat} {w : World} : ∀ {es : List MapEntry} {xs : List (κ × α)}, EntK K E ag M w es xs → ∀ {e : MapEntry} {x : κ × α}, (e, x) ∈ es.zip xs → e.key = K.val x.1 ∧ K.ok x.1 ∧ Vl E ag M w e.val x.2
  | [], _, _, _, _, h => by simp at h
  | _ :: _, [], h, _, _, _ => h.elim
  | e :: es, x :: xs, ⟨h1, h2, h3⟩, e', x', h => by
    rw [List.zip_cons_cons, List.mem_cons] at h
    rcases h with h | h
    · cases h; exact ⟨h1.1, h1.2, h2⟩
    · exact EntK.zip h3 h
theorem mem_zip_left {β : Type} : ∀ {es : List MapEntry} {xs : List β}, es.length = xs.length → ∀ e ∈ es, ∃ x, (e, x) ∈ es.zip xs
  | [], _, _, _, h => by cases h
  | e :: es, x :: xs, hl, e', h => by
    rcases List.mem_cons.1 h with rfl | h
    · exact ⟨x, by simp⟩
    · obtain ⟨y, hy⟩ := mem_zip_left (Nat.succ.inj hl) e' h
      exact ⟨y, by simp [hy]⟩
  | _ :: _, [], h, _, _ => by simp at h
/-- Where one is in a map: what is still to come, and what came last. -/
def itR (r b c : Nat) (es : Array MapEntry) (xs : List (κ × α)) (o : Option (κ × α)) (l : List (κ × α)) : Res where
  fp := [r]
  mu := []
  holds := fun _ w => ∃ seen, w.heap[r]? = some (.mapIter (some b) c seen c) ∧ l.Perm (remX (es.toList.zip xs) seen) ∧ ∀ y, o = some y → ∃ (s0 : Array Nat) (e : MapEntry), seen = s0.push e.born ∧ (e, y) ∈ es.toList.zip xs
  adv := fun _ hb h => by
    obtain ⟨seen, h1, h2⟩ := h
    exact ⟨seen, (hb r (by simp)).trans h1, h2⟩
  lt := fun h x hx => by
    obtain ⟨seen, h1, h2⟩ := h
    have : x = r := by simpa using hx
    subst this; exact heap_lt h1
variable {N : Nat} {ops : Array Oper} {q : Md} {rest : List Oper} {ds : List Deferred} {L : Env} {w w0 : World} {A B : Out} {X : Nat → Out} {Z : List PanicEntry → Out} {d : Nat} {ty : TypeId} {pos : String} {af : Array Edge} {Mu M : List Nat} {σ : List Res}
theorem Hp.weak {r r' : Res} (h : Hp w0 Mu M σ w) (i : Nat) (hi : σ[i]? = some r) (hf : r'.fp = r.fp) (hm : r'.mu = r.mu) (hh : ∀ M', (∀ b ∈ M', b ∈ r'.fp ∨ b ∈ mm σ M) → r'.holds M' w) : Hp w0 Mu M (σ.set i r') w :=
  h.upd i hi (Kp.refl _ _) (fun b hb => .inl (hf ▸ hb)) hm hh
theorem Hp.weakA {r r' : Res} (i : Nat) (hi : σ[i]? = some r) (hf : r'.fp = r.fp) : Adv (mm σ M) (mm (σ.set i r') M) w w :=
  Adv.drop fun b hb => (mm_set hb).elim (fun h => mem_mm.2 (.inl ⟨r, List.mem_of_getElem? hi, hf ▸ h⟩)) id
/-- What came last is forgotten. -/
theorem Hp.itOff {r b c : Nat} {es : Array MapEntry} {xs l : List (κ × α)} {o : Option (κ × α)} (h : Hp w0 Mu M σ w) (i : Nat) (hi : σ[i]? = some (itR r b c es xs o l)) : Hp w0 Mu M (σ.set i (itR r b c es xs none l)) w :=
  h.weak i hi rfl rfl fun _ _ => by
    obtain ⟨seen, h1, h2, _⟩ := h.get i hi
    exact ⟨seen, h1, h2, fun _ h => by cases h⟩
theorem Hp.itOffA {r b c : Nat} {es : Array MapEntry} {xs l : List (κ × α)} {o : Option (κ × α)} (i : Nat) (hi : σ[i]? = some (itR r b c es xs o l)) : Adv (mm σ M) (mm (σ.set i (itR r b c es xs none l)) M) w w := Hp.weakA i hi rfl
/-- A way through a map begins. -/
theorem y_rg {f : FMap κ α} {mv : Value} {x : Operand} {t kt' e : TypeId} (hI : Hp w0 Mu M σ w) (hm : RdF K E ag (mm σ M) w mv f)
    (hx : ev L x = some mv) (ht : P.underlying t = some (.map kt' e)) (hN : Nat.blt d N = true)
    (h : ∀ r b c es xs w', RdX K E ag (mm σ M) w b es c xs → Lists f xs → Hp w0 Mu M (itR r b c es xs none xs :: σ) w' → Adv (mm σ M) (mm (itR r b c es xs none xs :: σ) M) w w' → Reg P N ops .seq rest ds ((d, .pointer (some ⟨r, 0, none⟩)) :: L) w' A B X Z) :
    Reg P N ops .seq (⟨some d, .range t x, ty, pos, af, none⟩ :: rest) ds L w A B X Z := by
  obtain ⟨b, rfl, hb, es, c, xs, h1, h2, h3, h4⟩ := hm
  have hx' : Ext w (w.alloc (.mapIter (some b) c #[] c)) := Kp.alloc _ _ _
  have hn : ∀ y ∈ (itR w.heap.size b c es xs none xs).fp, w.heap.size ≤ y ∧ y < (w.alloc (.mapIter (some b) c #[] c)).heap.size := fun y hy => by
    have : y = w.heap.size := by simpa [itR] using hy
    subst this; exact ⟨Nat.le_refl _, by show w.heap.size < (w.heap.push _).size; simp⟩
  refine Reg.eff (.pointer (some ⟨w.heap.size, 0, none⟩)) (w.alloc (.mapIter (some b) c #[] c)) rfl rfl hN (fun a ha => ?_) (h _ b c es xs _ ⟨hb, h1, h2, h3⟩ h4 (hI.add hx' hn rfl ⟨#[], heap_alloc_new w _, by rw [rem_all h3.len], fun _ h => by cases h⟩) (hI.addA hx' hn))
  have hr := run_range_map w t kt' e b es c ht h1
  simp [execOp, ha.eval hx, hr]
/-- One step on. -/
theorem y_nx (j : Nat) {b r c : Nat} {es : Array MapEntry} {xs l : List (κ × α)} {o : Option (κ × α)} {x : Operand} (hI : Hp w0 Mu M σ w) (hm : RdX K E ag (mm σ M) w b es c xs) (hj : σ[j]? = some (itR r b c es xs o l))
    (hx : ev L x = some (.pointer (some ⟨r, 0, none⟩))) (hN : Nat.blt d N = true)
    (h0 : l = [] → Reg P N ops .seq rest ds ((d, .tuple #[.bool false]) :: L) w A B X Z)
    (h1 : ∀ (y : κ × α) (l' : List (κ × α)) k v w', l.Perm (y :: l') → Hp w0 Mu M (σ.set j (itR r b c es xs (some y) l')) w' → Adv (mm σ M) (mm (σ.set j (itR r b c es xs (some y) l')) M) w w' →
      Reg P N ops .seq rest ds ((d, .tuple #[.bool true, k, v]) :: L) w' A B X Z) :
    Reg P N ops .seq (⟨some d, .next x false, ty, pos, af, none⟩ :: rest) ds L w A B X Z := by
  obtain ⟨_, hb, hs, hE⟩ := hm
  obtain ⟨seen, hr, hl, _⟩ := hI.get j hj
  rcases run_next_at (P := P) w ty r b c c seen es c hr hb hs.2 (Nat.le_refl _) with ⟨g1, g2⟩ | ⟨e, he, w1, hw1, g2⟩
  · refine Reg.eff (.tuple #[.bool false]) w rfl rfl hN (fun a ha => ?_) (h0 ?_)
    · simp [execOp, ha.eval hx, g2]
    · rw [rem_nil g1] at hl; exact List.perm_nil.1 hl
  · have hel : e ∈ es.toList ∧ seen.contains e.born = false := by
      unfold leftOf at he
      have he' : e ∈ es.filter fun e => !seen.contains e.born := by simpa using he
      have := Array.mem_filter.1 he'
      exact ⟨by simpa using this.1, by simpa using this.2⟩
    obtain ⟨y, hz⟩ := mem_zip_left hE.len e hel.1
    have hp := rem_cons (p := (e, y)) (seen := seen) (l := es.toList.zip xs) (by rw [zip_born hE.len]; exact hs.1) hz hel.2
    have hr1 : w1.heap[r]? = some (.mapIter (some b) c seen c) := by rcases hw1 with rfl | rfl <;> exact hr
    have h01 : Kp [r] w w1 := by
      rcases hw1 with rfl | rfl
      · exact Kp.refl _ _
      · exact Kp.drew _ _
    have hkp : Kp [r] w (setBlock w1 r (.mapIter (some b) c (seen.push e.born) c)) := h01.trans (Kp.setB hr1)
    have hn : ∀ z ∈ (itR r b c es xs (some y) (remX (es.toList.zip xs) (seen.push e.born))).fp, z ∈ (itR r b c es xs o l).fp ∨ w.heap.size ≤ z := fun z hz => .inl hz
    refine Reg.eff (.tuple #[.bool true, e.key, e.val]) _ rfl rfl hN (fun a ha => ?_) (h1 y (remX (es.toList.zip xs) (seen.push e.born)) e.key e.val _ (hl.trans hp) (hI.upd j hj hkp hn rfl fun M' _ => ⟨_, (MapKept.heap_set hr1).1, List.Perm.refl _, fun y' hy' => ⟨seen, e, rfl, by cases hy'; exact hz⟩⟩) (hI.updA (r' := itR r b c es xs (some y) (remX (es.toList.zip xs) (seen.push e.born))) j hj hkp hn))
    simp [execOp, ha.eval hx, g2]
/-- What the step came to, read. -/
theorem y_en (j : Nat) {b r c : Nat} {es : Array MapEntry} {xs l : List (κ × α)} {y : κ × α} {x : Operand} (hI : Hp w0 Mu M σ w) (hm : RdX K E ag (mm σ M) w b es c xs) (hj : σ[j]? = some (itR r b c es xs (some y) l))
    (hx : ev L x = some (.pointer (some ⟨r, 0, none⟩))) (hN : Nat.blt d N = true)
    (h : ∀ v, K.ok y.1 → Vl E ag (mm σ M) w v y.2 → Reg P N ops .seq rest ds ((d, .tuple #[K.val y.1, v]) :: L) w A B X Z) :
    Reg P N ops .seq (⟨some d, .entry x, ty, pos, af, none⟩ :: rest) ds L w A B X Z := by
  obtain ⟨_, hb, hs, hE⟩ := hm
  obtain ⟨seen, hr, _, ho⟩ := hI.get j hj
  obtain ⟨s0, e, rfl, hz⟩ := ho y rfl
  obtain ⟨hk, hok, hv⟩ := hE.zip hz
  have h' := h e.val hok hv
  rw [← hk] at h'
  refine Reg.eff (.tuple #[e.key, e.val]) w rfl rfl hN (fun a ha => ?_) h'
  have := run_entry_at (P := P) w r b c s0 es c e hr hb (List.of_mem_zip hz).1 hs.1
  simp [execOp, ha.eval hx, this]
end
section
variable {P : Program} {N : Nat} {ops : Array Oper} {ds : List Deferred} {L : Env} {w : World} {A B : Out} {X : Nat → Out} {Z : List PanicEntry → Out}
/-- A loop through a map: at each round's head the frame is known as E i, I i l holds, l being what is still to come. -/
theorem cw_loopA (m : Nat) {S β : Type} {ι : Type} {c : Code} (body : S → β → Option S) (E : ι → Env) (st : ι → S) (I : ι → List β → World → Prop) (i0 : ι) (l0 : List β) {x : S} (hx : AnyR body l0 (st i0) x) (h0 : I i0 l0 w) (hs : Sub (E i0 ++ L.drop m) L)
    (round : ∀ i l w, I i l w → (l = [] → st i = x) → (∀ y l', l.Perm (y :: l') → ∃ s', body (st i) y = some s') → CW P N c ds (E i ++ L.drop m) w (fun ds' L' w' => ds' = ds ∧ ∃ i' y l', (l.Perm (y :: l') ∧ body (st i) y = some (st i') ∧ I i' l' w') ∧ Sub (E i' ++ L.drop m) L') B X Z) : CW P N (.loop c) ds L w A B X Z := by
  refine cw_loop (ι := ι × List β) (fun p => E p.1 ++ L.drop m) (fun p w => I p.1 p.2 w ∧ AnyR body p.2 (st p.1) x) (fun p => p.2.length) (i0, l0) ⟨h0, hx⟩ hs fun p w hp => ?_
  obtain ⟨i, l⟩ := p
  obtain ⟨hI, hn⟩ := hp
  refine cw_mono (round i l w hI (fun h => by subst h; exact hn.nil) fun y l' hp => (hn.step hp).imp fun _ h => h.1) fun e a w' hq => ?_
  cases e with
  | normal =>
    obtain ⟨ds', L', ha, rfl, i', y, l', ⟨hp, hb, hI'⟩, hsub⟩ := hq
    obtain ⟨s', hb', hn'⟩ := hn.step hp
    rw [hb] at hb'
    cases hb'
    exact ⟨_, L', ha, rfl, (i', l'), ⟨hI', hn'⟩, hsub, by have := hp.length_eq; simp at this; show l'.length < l.length; omega⟩
  | _ => exact hq
end
end Go.Sx
namespace Go.Sx
open Go Go.RowKit
variable [Trk]
open Classical in
/-- Going through a map, and what comes of it: the answer, if it is one whatever the order. -/
noncomputable def anyK {κ α R : Type} (m : FMap κ α) (K : List (κ × α) → Option R) : Option R := if h : ∃ r, ∀ l, Lists m l → K l = some r then some h.choose else none
theorem anyK_of {κ α R : Type} {m : FMap κ α} {K : List (κ × α) → Option R} {r : R} {l0 : List (κ × α)} (h0 : Lists m l0) (h : ∀ l, Lists m l → K l = some r) : anyK m K = some r := by
  unfold anyK
  rw [dif_pos ⟨r, h⟩]
  have h1 := (⟨r, h⟩ : ∃ r, ∀ l, Lists m l → K l = some r).choose_spec l0 h0
  rw [h l0 h0] at h1
  exact h1.symm
theorem anyK_out {κ α R S : Type} {m : FMap κ α} {body : S → κ × α → Option S} {s0 : S} {rest : S → Option R} {r : R} (h : anyK m (fun l => Option.bind (List.foldlM body s0 l) rest) = some r) {xs : List (κ × α)} (hL : Lists m xs) :
    ∃ B : S → κ × α → Option S, B = body ∧ ∀ l : List (κ × α), l.Perm xs → ∃ s, List.foldlM B s0 l = some s ∧ rest s = some r := by
  refine ⟨body, rfl, fun l hl => ?_⟩
  unfold anyK at h
  split at h
  · rename_i h1
    have h2 := h1.choose_spec l (hL.perm hl)
    rw [Option.some.inj h] at h2
    have h2 : Option.bind (List.foldlM body s0 l) rest = some r := h2
    cases hf : List.foldlM body s0 l with
    | none => rw [hf] at h2; cases h2
    | some s => rw [hf] at h2; exact ⟨s, rfl, h2⟩
  · cases h
section
variable {P : Program} {N : Nat} {ops : Array Oper} {ds : List Deferred} {L : Env} {w : World} {A B : Out} {X : Nat → Out} {Z : List PanicEntry → Out}
theorem cw_loopK (m : Nat) {S β : Type} {ι : Type} {c : Code} (body : S → β → Option S) (E : ι → Env) (st : ι → S) (I : ι → List β → World → Prop) (i0 : ι) (l0 : List β) (hx : ∀ l : List β, l.Perm l0 → ∃ s, List.foldlM body (st i0) l = some s) (h0 : I i0 l0 w) (hs : Sub (E i0 ++ L.drop m) L)
    (round : ∀ i l w, I i l w → (l = [] → ∃ d : List β, d.Perm l0 ∧ List.foldlM body (st i0) d = some (st i)) → (∀ y l', l.Perm (y :: l') → ∃ s', body (st i) y = some s') → CW P N c ds (E i ++ L.drop m) w (fun ds' L' w' => ds' = ds ∧ ∃ i' y l', (l.Perm (y :: l') ∧ body (st i) y = some (st i') ∧ I i' l' w') ∧ Sub (E i' ++ L.drop m) L') B X Z) : CW P N (.loop c) ds L w A B X Z := by
  refine cw_loop (ι := ι × List β) (fun p => E p.1 ++ L.drop m) (fun p w => I p.1 p.2 w ∧ ∃ d : List β, (d ++ p.2).Perm l0 ∧ List.foldlM body (st i0) d = some (st p.1)) (fun p => p.2.length) (i0, l0) ⟨h0, [], List.Perm.refl _, rfl⟩ hs fun p w hp => ?_
  obtain ⟨i, l⟩ := p
  obtain ⟨hI, d, hd, hf⟩ := hp
  have hd : (d ++ l).Perm l0 := hd
  refine cw_mono (round i l w hI (fun h => ?_) fun y l' hp => ?_) fun e a w' hq => ?_
  · subst h; exact ⟨d, by simpa using hd, hf⟩
  · obtain ⟨s, hs⟩ := hx (d ++ (y :: l')) (((List.Perm.refl d).append hp.symm).trans hd)
    rw [List.foldlM_append, hf] at hs
    simp only [Option.bind_eq_bind, Option.bind_some, List.foldlM_cons] at hs
    cases hb : body (st i) y with
    | none => rw [hb] at hs; cases hs
    | some s' => exact ⟨s', rfl⟩
  · cases e with
    | normal =>
      obtain ⟨ds', L', ha, rfl, i', y, l', ⟨hp, hb, hI'⟩, hsub⟩ := hq
      refine ⟨_, L', ha, rfl, (i', l'), ⟨hI', d ++ [y], ?_, ?_⟩, hsub, by have := hp.length_eq; simp at this; show l'.length < l.length; omega⟩
      · rw [List.append_assoc]; exact ((List.Perm.refl d).append hp.symm).trans hd
      · rw [List.foldlM_append, hf]
        simp only [Option.bind_eq_bind, Option.bind_some, List.foldlM_cons, hb, List.foldlM_nil]
        rfl
    | _ => exact hq
end
end Go.Sx
namespace Go.Sx
open Go Go.RowKit
variable [Trk]
def AllS {α β γ : Type} (Q : α → β → γ → Prop) : List (α × β × γ) → Prop
  | [] => True
  | (a, b, c) :: r => Q a b c ∧ AllS Q r
theorem AllS.nil {α β γ : Type} {Q : α → β → γ → Prop} : AllS Q [] := trivial
theorem AllS.cons {α β γ : Type} {Q : α → β → γ → Prop} {a : α} {b : β} {c : γ} {r : List (α × β × γ)} (h : Q a b c) (hr : AllS Q r) : AllS Q ((a, b, c) :: r) := ⟨h, hr⟩
theorem AllS.at {α β γ : Type} {Q : α → β → γ → Prop} : ∀ {l : List (α × β × γ)}, AllS Q l → ∀ {j : Nat} {a : α} {b : β} {c : γ}, l[j]? = some (a, b, c) → Q a b c
  | [], _, j, _, _, _, h => by simp at h
  | (x, y, z) :: l, ⟨h1, h2⟩, 0, a, b, c, h => by simp at h; obtain ⟨rfl, rfl, rfl⟩ := h; exact h1
  | (x, y, z) :: l, ⟨h1, h2⟩, j + 1, a, b, c, h => AllS.at h2 (j := j) (by simpa using h)
theorem bsplit {b : Bool} {p : Prop} (h1 : b = true → p) (h2 : b = false → p) : p := by
  cases b
  · exact h2 rfl
  · exact h1 rfl
theorem SeaWalk.dag {P : Program} {N : Nat} {ops : Array Oper} {md : Region.Mode} {ds : List Deferred} {w0 : World} {PZ : List (Nat × PK)} {slots D : List Nat} {A : Out} (l : List (List Nat × Env × (World → Prop)))
    (h : AllS (fun Tr L I => ∀ w, I w → (Tr = [] ∧ A ds L w) ∨ (Tr ≠ [] ∧ ∃ hs, heads md ops Tr = hs ∧ AllL (fun k => ∃ o, ops[k]? = some o ∧ ∀ Q : Out,
      (∀ (j : Nat) (L2 : Env) (I2 : World → Prop) (w' : World), l[j]? = some (Tr.erase k, L2, I2) → (D.any (fun j => !(Tr.erase k).contains j) = true ∨ Ext w0 w') → (slots.all fun t => (look L2 t).isNone) = true → (∀ w'', Ext w' w'' → I2 w'') → Q ds L2 w') → Reg P N ops .seq [o] ds L w Q NoO (fun _ => NoO) NoZ) hs)) l) :
    ∀ (n : Nat) (Tr : List Nat) (L : Env) (I : World → Prop) (j : Nat) (w : World), Tr.length = n → l[j]? = some (Tr, L, I) → I w → SeaWalk P N ops md ds w0 PZ slots D A n Tr L w := by
  intro n
  induction n with
  | zero =>
    intro Tr L I j w hn hj hI
    rcases h.at hj w hI with ⟨_, hA⟩ | ⟨hne, _⟩
    · exact hA
    · exact absurd (List.eq_nil_of_length_eq_zero hn) hne
  | succ n ih =>
    intro Tr L I j w hn hj hI
    rcases h.at hj w hI with ⟨h0, _⟩ | ⟨_, hs, hh, hal⟩
    · rw [h0] at hn; cases hn
    · refine ⟨hs, hh, ?_⟩
      have hsub : ∀ k ∈ hs, k ∈ Tr := fun k hk => by
        rw [← hh] at hk
        exact (List.mem_filter.1 hk).1
      clear hh
      induction hs with
      | nil => exact trivial
      | cons k r ihr =>
        refine ⟨?_, ihr hal.2 fun x hx => hsub x (List.mem_cons_of_mem _ hx)⟩
        obtain ⟨o, ho, hR⟩ := hal.1
        refine ⟨o, [], ho, RSub.nil, rfl, List.nodup_nil, ?_⟩
        refine hR _ fun j L2 I2 w' hj2 hx hsl hI2 => ⟨rfl, hx, hsl, fun w'' hw'' => ?_⟩
        exact ih (Tr.erase k) L2 I2 j w'' (by rw [List.length_erase_of_mem (hsub k (List.mem_cons_self ..)), hn]; rfl) hj2 (hI2 w'' hw'')
end Go.Sx
namespace Go.Proofs.YtepjkmoipjeghaaDoor
open Go Go.Sx Go.RowKit
variable [Trk]
theorem fol : Tryd.prog.follows .mixedOrders = true := by kernel_rfl
@[ext] structure Report where
  id : Int
  source : Int
  account : Int
  made : Int
  about : Int
  kind : Int
  cents : Int
  of_ : Int
def ReportE : Enc Report := mapE (fun x => (x.id, (x.source, (x.account, (x.made, (x.about, (x.kind, (x.cents, x.of_)))))))) (prodE (intE .i64) (prodE (intE .i64) (prodE (intE .i64) (prodE (intE .i64) (prodE (intE .i64) (prodE (intE .u8) (prodE (intE .i64) ((intE .i64)))))))))
attribute [grind ext] Report.ext
instance : DecidableEq Report := fun x y => decidable_of_iff (x.id = y.id ∧ x.source = y.source ∧ x.account = y.account ∧ x.made = y.made ∧ x.about = y.about ∧ x.kind = y.kind ∧ x.cents = y.cents ∧ x.of_ = y.of_) ⟨fun ⟨h0, h1, h2, h3, h4, h5, h6, h7⟩ => Report.ext h0 h1 h2 h3 h4 h5 h6 h7, fun h => by subst h; exact ⟨rfl, rfl, rfl, rfl, rfl, rfl, rfl, rfl⟩⟩
theorem ReportE_R {M : List Nat} {w : World} {cs : List Value} {x : Report} : ReportE.R M w cs x ↔ cs = [Value.int IntKind.i64 x.id, Value.int IntKind.i64 x.source, Value.int IntKind.i64 x.account, Value.int IntKind.i64 x.made, Value.int IntKind.i64 x.about, Value.int IntKind.u8 x.kind, Value.int IntKind.i64 x.cents, Value.int IntKind.i64 x.of_] ∧ InK .i64 x.id ∧ InK .i64 x.source ∧ InK .i64 x.account ∧ InK .i64 x.made ∧ InK .i64 x.about ∧ InK .u8 x.kind ∧ InK .i64 x.cents ∧ InK .i64 x.of_ := by
  simp only [ReportE, mapE_R, prodE_R, intE_R, boolE_R, sliceE_R]
  constructor
  · rintro ⟨_, _, rfl, ⟨rfl, h0⟩, ⟨_, _, rfl, ⟨rfl, h1⟩, ⟨_, _, rfl, ⟨rfl, h2⟩, ⟨_, _, rfl, ⟨rfl, h3⟩, ⟨_, _, rfl, ⟨rfl, h4⟩, ⟨_, _, rfl, ⟨rfl, h5⟩, ⟨_, _, rfl, ⟨rfl, h6⟩, ⟨rfl, h7⟩⟩⟩⟩⟩⟩⟩⟩
    exact ⟨rfl, h0, h1, h2, h3, h4, h5, h6, h7⟩
  · rintro ⟨rfl, h0, h1, h2, h3, h4, h5, h6, h7⟩
    exact ⟨[Value.int IntKind.i64 x.id], [Value.int IntKind.i64 x.source, Value.int IntKind.i64 x.account, Value.int IntKind.i64 x.made, Value.int IntKind.i64 x.about, Value.int IntKind.u8 x.kind, Value.int IntKind.i64 x.cents, Value.int IntKind.i64 x.of_], rfl, ⟨rfl, h0⟩, ⟨[Value.int IntKind.i64 x.source], [Value.int IntKind.i64 x.account, Value.int IntKind.i64 x.made, Value.int IntKind.i64 x.about, Value.int IntKind.u8 x.kind, Value.int IntKind.i64 x.cents, Value.int IntKind.i64 x.of_], rfl, ⟨rfl, h1⟩, ⟨[Value.int IntKind.i64 x.account], [Value.int IntKind.i64 x.made, Value.int IntKind.i64 x.about, Value.int IntKind.u8 x.kind, Value.int IntKind.i64 x.cents, Value.int IntKind.i64 x.of_], rfl, ⟨rfl, h2⟩, ⟨[Value.int IntKind.i64 x.made], [Value.int IntKind.i64 x.about, Value.int IntKind.u8 x.kind, Value.int IntKind.i64 x.cents, Value.int IntKind.i64 x.of_], rfl, ⟨rfl, h3⟩, ⟨[Value.int IntKind.i64 x.about], [Value.int IntKind.u8 x.kind, Value.int IntKind.i64 x.cents, Value.int IntKind.i64 x.of_], rfl, ⟨rfl, h4⟩, ⟨[Value.int IntKind.u8 x.kind], [Value.int IntKind.i64 x.cents, Value.int IntKind.i64 x.of_], rfl, ⟨rfl, h5⟩, ⟨[Value.int IntKind.i64 x.cents], [Value.int IntKind.i64 x.of_], rfl, ⟨rfl, h6⟩, ⟨rfl, h7⟩⟩⟩⟩⟩⟩⟩⟩
theorem Report_eq (x y : Report) (w : World) : (Op.equalIn 10000 61 (.agg (List.toArray [Value.int IntKind.i64 x.id, Value.int IntKind.i64 x.source, Value.int IntKind.i64 x.account, Value.int IntKind.i64 x.made, Value.int IntKind.i64 x.about, Value.int IntKind.u8 x.kind, Value.int IntKind.i64 x.cents, Value.int IntKind.i64 x.of_])) (.agg (List.toArray [Value.int IntKind.i64 y.id, Value.int IntKind.i64 y.source, Value.int IntKind.i64 y.account, Value.int IntKind.i64 y.made, Value.int IntKind.i64 y.about, Value.int IntKind.u8 y.kind, Value.int IntKind.i64 y.cents, Value.int IntKind.i64 y.of_]))).run Tryd.prog w = .ok (decide (x = y)) w := by
  have hf : Tryd.prog.underlying 61 = some (.struct (Tryd.prog.fieldsOf 61)) := by simp [Program.fieldsOf, Tryd.underlying61]
  rw [show (10000 : Nat) = 9999 + 1 from rfl, run_equalIn_agg w 9999 61 _ _ hf Tryd.stoodInHeld61]
  have h0 : decide (x = y) = (decide (x.id = y.id) && decide (x.source = y.source) && decide (x.account = y.account) && decide (x.made = y.made) && decide (x.about = y.about) && decide (x.kind = y.kind) && decide (x.cents = y.cents) && decide (x.of_ = y.of_)) := by
    rw [Bool.eq_iff_iff]; simp only [decide_eq_true_eq, Bool.and_eq_true]; constructor
    · rintro rfl; simp
    · intro h; apply Report.ext <;> simp_all
  rw [h0]
  simp [Program.fieldsOf, Tryd.underlying61, Op.eqFields, part, Tryd.isAgg3, run_equalIn_int w 9998 3 .i64 .i64 _ _ Tryd.underlying3, Tryd.isAgg5, run_equalIn_int w 9998 5 .u8 .u8 _ _ Tryd.underlying5]
  repeat' split
  all_goals simp_all
@[ext] structure Told where
  known : Int
  cents : Int
  since : Int
  by_ : (List Int)
def ToldE : Enc Told := mapE (fun x => (x.known, (x.cents, (x.since, x.by_)))) (prodE (intE .u8) (prodE (intE .i64) (prodE (intE .i64) ((sliceE (intE .i64))))))
attribute [grind ext] Told.ext
instance : DecidableEq Told := fun x y => decidable_of_iff (x.known = y.known ∧ x.cents = y.cents ∧ x.since = y.since ∧ x.by_ = y.by_) ⟨fun ⟨h0, h1, h2, h3⟩ => Told.ext h0 h1 h2 h3, fun h => by subst h; exact ⟨rfl, rfl, rfl, rfl⟩⟩
theorem ToldE_R {M : List Nat} {w : World} {cs : List Value} {x : Told} : ToldE.R M w cs x ↔ ∃ v3 : Value, cs = [Value.int IntKind.u8 x.known, Value.int IntKind.i64 x.cents, Value.int IntKind.i64 x.since, v3] ∧ InK .u8 x.known ∧ InK .i64 x.cents ∧ InK .i64 x.since ∧ RdS (intE .i64) M w v3 x.by_ := by
  simp only [ToldE, mapE_R, prodE_R, intE_R, boolE_R, sliceE_R]
  constructor
  · rintro ⟨_, _, rfl, ⟨rfl, h0⟩, ⟨_, _, rfl, ⟨rfl, h1⟩, ⟨_, _, rfl, ⟨rfl, h2⟩, ⟨v3, rfl, h3⟩⟩⟩⟩
    exact ⟨v3, rfl, h0, h1, h2, h3⟩
  · rintro ⟨v3, rfl, h0, h1, h2, h3⟩
    exact ⟨[Value.int IntKind.u8 x.known], [Value.int IntKind.i64 x.cents, Value.int IntKind.i64 x.since, v3], rfl, ⟨rfl, h0⟩, ⟨[Value.int IntKind.i64 x.cents], [Value.int IntKind.i64 x.since, v3], rfl, ⟨rfl, h1⟩, ⟨[Value.int IntKind.i64 x.since], [v3], rfl, ⟨rfl, h2⟩, ⟨v3, rfl, h3⟩⟩⟩⟩
@[ext] structure Span where
  lo : Int
  hi : Int
def SpanE : Enc Span := mapE (fun x => (x.lo, x.hi)) (prodE (intE .i64) ((intE .i64)))
attribute [grind ext] Span.ext
instance : DecidableEq Span := fun x y => decidable_of_iff (x.lo = y.lo ∧ x.hi = y.hi) ⟨fun ⟨h0, h1⟩ => Span.ext h0 h1, fun h => by subst h; exact ⟨rfl, rfl⟩⟩
theorem SpanE_R {M : List Nat} {w : World} {cs : List Value} {x : Span} : SpanE.R M w cs x ↔ cs = [Value.int IntKind.i64 x.lo, Value.int IntKind.i64 x.hi] ∧ InK .i64 x.lo ∧ InK .i64 x.hi := by
  simp only [SpanE, mapE_R, prodE_R, intE_R, boolE_R, sliceE_R]
  constructor
  · rintro ⟨_, _, rfl, ⟨rfl, h0⟩, ⟨rfl, h1⟩⟩
    exact ⟨rfl, h0, h1⟩
  · rintro ⟨rfl, h0, h1⟩
    exact ⟨[Value.int IntKind.i64 x.lo], [Value.int IntKind.i64 x.hi], rfl, ⟨rfl, h0⟩, ⟨rfl, h1⟩⟩
theorem Span_eq (x y : Span) (w : World) : (Op.equalIn 10000 40 (.agg (List.toArray [Value.int IntKind.i64 x.lo, Value.int IntKind.i64 x.hi])) (.agg (List.toArray [Value.int IntKind.i64 y.lo, Value.int IntKind.i64 y.hi]))).run Tryd.prog w = .ok (decide (x = y)) w := by
  have hf : Tryd.prog.underlying 40 = some (.struct (Tryd.prog.fieldsOf 40)) := by simp [Program.fieldsOf, Tryd.underlying40]
  rw [show (10000 : Nat) = 9999 + 1 from rfl, run_equalIn_agg w 9999 40 _ _ hf Tryd.stoodInHeld40]
  have h0 : decide (x = y) = (decide (x.lo = y.lo) && decide (x.hi = y.hi)) := by
    rw [Bool.eq_iff_iff]; simp only [decide_eq_true_eq, Bool.and_eq_true]; constructor
    · rintro rfl; simp
    · intro h; apply Span.ext <;> simp_all
  rw [h0]
  simp [Program.fieldsOf, Tryd.underlying40, Op.eqFields, part, Tryd.isAgg3, run_equalIn_int w 9998 3 .i64 .i64 _ _ Tryd.underlying3]
  repeat' split
  all_goals simp_all
@[ext] structure State where
  opened : Told
  limit : Told
  owed : Told
  late : Told
  default : Told
  closed : Told
  paid : Span
  is_ : Int
def StateE : Enc State := mapE (fun x => (x.opened, (x.limit, (x.owed, (x.late, (x.default, (x.closed, (x.paid, x.is_)))))))) (prodE ToldE (prodE ToldE (prodE ToldE (prodE ToldE (prodE ToldE (prodE ToldE (prodE SpanE ((intE .u8)))))))))
attribute [grind ext] State.ext
instance : DecidableEq State := fun x y => decidable_of_iff (x.opened = y.opened ∧ x.limit = y.limit ∧ x.owed = y.owed ∧ x.late = y.late ∧ x.default = y.default ∧ x.closed = y.closed ∧ x.paid = y.paid ∧ x.is_ = y.is_) ⟨fun ⟨h0, h1, h2, h3, h4, h5, h6, h7⟩ => State.ext h0 h1 h2 h3 h4 h5 h6 h7, fun h => by subst h; exact ⟨rfl, rfl, rfl, rfl, rfl, rfl, rfl, rfl⟩⟩
theorem StateE_R {M : List Nat} {w : World} {cs : List Value} {x : State} : StateE.R M w cs x ↔ ∃ v3 : Value, ∃ v7 : Value, ∃ v11 : Value, ∃ v15 : Value, ∃ v19 : Value, ∃ v23 : Value, cs = [Value.int IntKind.u8 x.opened.known, Value.int IntKind.i64 x.opened.cents, Value.int IntKind.i64 x.opened.since, v3, Value.int IntKind.u8 x.limit.known, Value.int IntKind.i64 x.limit.cents, Value.int IntKind.i64 x.limit.since, v7, Value.int IntKind.u8 x.owed.known, Value.int IntKind.i64 x.owed.cents, Value.int IntKind.i64 x.owed.since, v11, Value.int IntKind.u8 x.late.known, Value.int IntKind.i64 x.late.cents, Value.int IntKind.i64 x.late.since, v15, Value.int IntKind.u8 x.default.known, Value.int IntKind.i64 x.default.cents, Value.int IntKind.i64 x.default.since, v19, Value.int IntKind.u8 x.closed.known, Value.int IntKind.i64 x.closed.cents, Value.int IntKind.i64 x.closed.since, v23, Value.int IntKind.i64 x.paid.lo, Value.int IntKind.i64 x.paid.hi, Value.int IntKind.u8 x.is_] ∧ InK .u8 x.opened.known ∧ InK .i64 x.opened.cents ∧ InK .i64 x.opened.since ∧ RdS (intE .i64) M w v3 x.opened.by_ ∧ InK .u8 x.limit.known ∧ InK .i64 x.limit.cents ∧ InK .i64 x.limit.since ∧ RdS (intE .i64) M w v7 x.limit.by_ ∧ InK .u8 x.owed.known ∧ InK .i64 x.owed.cents ∧ InK .i64 x.owed.since ∧ RdS (intE .i64) M w v11 x.owed.by_ ∧ InK .u8 x.late.known ∧ InK .i64 x.late.cents ∧ InK .i64 x.late.since ∧ RdS (intE .i64) M w v15 x.late.by_ ∧ InK .u8 x.default.known ∧ InK .i64 x.default.cents ∧ InK .i64 x.default.since ∧ RdS (intE .i64) M w v19 x.default.by_ ∧ InK .u8 x.closed.known ∧ InK .i64 x.closed.cents ∧ InK .i64 x.closed.since ∧ RdS (intE .i64) M w v23 x.closed.by_ ∧ InK .i64 x.paid.lo ∧ InK .i64 x.paid.hi ∧ InK .u8 x.is_ := by
  simp only [StateE, mapE_R, prodE_R, intE_R, boolE_R, sliceE_R, ToldE_R, ToldE_R, ToldE_R, ToldE_R, ToldE_R, ToldE_R, SpanE_R]
  constructor
  · rintro ⟨_, _, rfl, ⟨v3, rfl, h0, h1, h2, h3⟩, ⟨_, _, rfl, ⟨v7, rfl, h4, h5, h6, h7⟩, ⟨_, _, rfl, ⟨v11, rfl, h8, h9, h10, h11⟩, ⟨_, _, rfl, ⟨v15, rfl, h12, h13, h14, h15⟩, ⟨_, _, rfl, ⟨v19, rfl, h16, h17, h18, h19⟩, ⟨_, _, rfl, ⟨v23, rfl, h20, h21, h22, h23⟩, ⟨_, _, rfl, ⟨rfl, h24, h25⟩, ⟨rfl, h26⟩⟩⟩⟩⟩⟩⟩⟩
    exact ⟨v3, v7, v11, v15, v19, v23, rfl, h0, h1, h2, h3, h4, h5, h6, h7, h8, h9, h10, h11, h12, h13, h14, h15, h16, h17, h18, h19, h20, h21, h22, h23, h24, h25, h26⟩
  · rintro ⟨v3, v7, v11, v15, v19, v23, rfl, h0, h1, h2, h3, h4, h5, h6, h7, h8, h9, h10, h11, h12, h13, h14, h15, h16, h17, h18, h19, h20, h21, h22, h23, h24, h25, h26⟩
    exact ⟨[Value.int IntKind.u8 x.opened.known, Value.int IntKind.i64 x.opened.cents, Value.int IntKind.i64 x.opened.since, v3], [Value.int IntKind.u8 x.limit.known, Value.int IntKind.i64 x.limit.cents, Value.int IntKind.i64 x.limit.since, v7, Value.int IntKind.u8 x.owed.known, Value.int IntKind.i64 x.owed.cents, Value.int IntKind.i64 x.owed.since, v11, Value.int IntKind.u8 x.late.known, Value.int IntKind.i64 x.late.cents, Value.int IntKind.i64 x.late.since, v15, Value.int IntKind.u8 x.default.known, Value.int IntKind.i64 x.default.cents, Value.int IntKind.i64 x.default.since, v19, Value.int IntKind.u8 x.closed.known, Value.int IntKind.i64 x.closed.cents, Value.int IntKind.i64 x.closed.since, v23, Value.int IntKind.i64 x.paid.lo, Value.int IntKind.i64 x.paid.hi, Value.int IntKind.u8 x.is_], rfl, ⟨v3, rfl, h0, h1, h2, h3⟩, ⟨[Value.int IntKind.u8 x.limit.known, Value.int IntKind.i64 x.limit.cents, Value.int IntKind.i64 x.limit.since, v7], [Value.int IntKind.u8 x.owed.known, Value.int IntKind.i64 x.owed.cents, Value.int IntKind.i64 x.owed.since, v11, Value.int IntKind.u8 x.late.known, Value.int IntKind.i64 x.late.cents, Value.int IntKind.i64 x.late.since, v15, Value.int IntKind.u8 x.default.known, Value.int IntKind.i64 x.default.cents, Value.int IntKind.i64 x.default.since, v19, Value.int IntKind.u8 x.closed.known, Value.int IntKind.i64 x.closed.cents, Value.int IntKind.i64 x.closed.since, v23, Value.int IntKind.i64 x.paid.lo, Value.int IntKind.i64 x.paid.hi, Value.int IntKind.u8 x.is_], rfl, ⟨v7, rfl, h4, h5, h6, h7⟩, ⟨[Value.int IntKind.u8 x.owed.known, Value.int IntKind.i64 x.owed.cents, Value.int IntKind.i64 x.owed.since, v11], [Value.int IntKind.u8 x.late.known, Value.int IntKind.i64 x.late.cents, Value.int IntKind.i64 x.late.since, v15, Value.int IntKind.u8 x.default.known, Value.int IntKind.i64 x.default.cents, Value.int IntKind.i64 x.default.since, v19, Value.int IntKind.u8 x.closed.known, Value.int IntKind.i64 x.closed.cents, Value.int IntKind.i64 x.closed.since, v23, Value.int IntKind.i64 x.paid.lo, Value.int IntKind.i64 x.paid.hi, Value.int IntKind.u8 x.is_], rfl, ⟨v11, rfl, h8, h9, h10, h11⟩, ⟨[Value.int IntKind.u8 x.late.known, Value.int IntKind.i64 x.late.cents, Value.int IntKind.i64 x.late.since, v15], [Value.int IntKind.u8 x.default.known, Value.int IntKind.i64 x.default.cents, Value.int IntKind.i64 x.default.since, v19, Value.int IntKind.u8 x.closed.known, Value.int IntKind.i64 x.closed.cents, Value.int IntKind.i64 x.closed.since, v23, Value.int IntKind.i64 x.paid.lo, Value.int IntKind.i64 x.paid.hi, Value.int IntKind.u8 x.is_], rfl, ⟨v15, rfl, h12, h13, h14, h15⟩, ⟨[Value.int IntKind.u8 x.default.known, Value.int IntKind.i64 x.default.cents, Value.int IntKind.i64 x.default.since, v19], [Value.int IntKind.u8 x.closed.known, Value.int IntKind.i64 x.closed.cents, Value.int IntKind.i64 x.closed.since, v23, Value.int IntKind.i64 x.paid.lo, Value.int IntKind.i64 x.paid.hi, Value.int IntKind.u8 x.is_], rfl, ⟨v19, rfl, h16, h17, h18, h19⟩, ⟨[Value.int IntKind.u8 x.closed.known, Value.int IntKind.i64 x.closed.cents, Value.int IntKind.i64 x.closed.since, v23], [Value.int IntKind.i64 x.paid.lo, Value.int IntKind.i64 x.paid.hi, Value.int IntKind.u8 x.is_], rfl, ⟨v23, rfl, h20, h21, h22, h23⟩, ⟨[Value.int IntKind.i64 x.paid.lo, Value.int IntKind.i64 x.paid.hi], [Value.int IntKind.u8 x.is_], rfl, ⟨rfl, h24, h25⟩, ⟨rfl, h26⟩⟩⟩⟩⟩⟩⟩⟩
@[ext] structure Clash where
  kind : Int
  about : Int
  by_ : (List Int)
def ClashE : Enc Clash := mapE (fun x => (x.kind, (x.about, x.by_))) (prodE (intE .u8) (prodE (intE .i64) ((sliceE (intE .i64)))))
attribute [grind ext] Clash.ext
instance : DecidableEq Clash := fun x y => decidable_of_iff (x.kind = y.kind ∧ x.about = y.about ∧ x.by_ = y.by_) ⟨fun ⟨h0, h1, h2⟩ => Clash.ext h0 h1 h2, fun h => by subst h; exact ⟨rfl, rfl, rfl⟩⟩
theorem ClashE_R {M : List Nat} {w : World} {cs : List Value} {x : Clash} : ClashE.R M w cs x ↔ ∃ v2 : Value, cs = [Value.int IntKind.u8 x.kind, Value.int IntKind.i64 x.about, v2] ∧ InK .u8 x.kind ∧ InK .i64 x.about ∧ RdS (intE .i64) M w v2 x.by_ := by
  simp only [ClashE, mapE_R, prodE_R, intE_R, boolE_R, sliceE_R]
  constructor
  · rintro ⟨_, _, rfl, ⟨rfl, h0⟩, ⟨_, _, rfl, ⟨rfl, h1⟩, ⟨v2, rfl, h2⟩⟩⟩
    exact ⟨v2, rfl, h0, h1, h2⟩
  · rintro ⟨v2, rfl, h0, h1, h2⟩
    exact ⟨[Value.int IntKind.u8 x.kind], [Value.int IntKind.i64 x.about, v2], rfl, ⟨rfl, h0⟩, ⟨[Value.int IntKind.i64 x.about], [v2], rfl, ⟨rfl, h1⟩, ⟨v2, rfl, h2⟩⟩⟩
@[ext] structure Store where
  reports : (FMap Int Report)
@[ext] structure Desk where
  store : Store
  gone : (FMap Int Int)
  fixed : (FMap Int Int)
theorem sl22 : SlT Tryd.prog 22 61 8 64 := ⟨Tryd.underlying22, Tryd.t61, _, by kernel_rfl, rfl, rfl, rfl, rfl⟩
theorem sl36 : SlT Tryd.prog 36 3 1 8 := ⟨Tryd.underlying36, Tryd.t3, _, by kernel_rfl, rfl, rfl, rfl, rfl⟩
theorem sl47 : SlT Tryd.prog 47 55 3 40 := ⟨Tryd.underlying47, Tryd.t55, _, by kernel_rfl, rfl, rfl, rfl, rfl⟩
end Go.Proofs.YtepjkmoipjeghaaDoor
namespace Go.Sx
open Go Go.RowKit
abbrev vi (x : Int) : Value := .int .i64 x
abbrev vu (x : Int) : Value := .int .u8 x
abbrev vn : Value := .slice none 0 0
abbrev vp (b n : Nat) : Value := .pointer (some ⟨b, n, none⟩)
section
variable [Trk]
theorem sb1 {t0 : Nat} {v0 : Value} {L : Env} (h0 : look L t0 = some v0) : Sub [(t0, v0)] L := Sub.cons h0 (Sub.nil _)
theorem sb2 {t0 t1 : Nat} {v0 v1 : Value} {L : Env} (h0 : look L t0 = some v0) (h1 : look L t1 = some v1) : Sub [(t0, v0), (t1, v1)] L := Sub.cons h0 (Sub.cons h1 (Sub.nil _))
theorem sb3 {t0 t1 t2 : Nat} {v0 v1 v2 : Value} {L : Env} (h0 : look L t0 = some v0) (h1 : look L t1 = some v1) (h2 : look L t2 = some v2) : Sub [(t0, v0), (t1, v1), (t2, v2)] L := Sub.cons h0 (Sub.cons h1 (Sub.cons h2 (Sub.nil _)))
theorem sb4 {t0 t1 t2 t3 : Nat} {v0 v1 v2 v3 : Value} {L : Env} (h0 : look L t0 = some v0) (h1 : look L t1 = some v1) (h2 : look L t2 = some v2) (h3 : look L t3 = some v3) : Sub [(t0, v0), (t1, v1), (t2, v2), (t3, v3)] L := Sub.cons h0 (Sub.cons h1 (Sub.cons h2 (Sub.cons h3 (Sub.nil _))))
theorem sb5 {t0 t1 t2 t3 t4 : Nat} {v0 v1 v2 v3 v4 : Value} {L : Env} (h0 : look L t0 = some v0) (h1 : look L t1 = some v1) (h2 : look L t2 = some v2) (h3 : look L t3 = some v3) (h4 : look L t4 = some v4) : Sub [(t0, v0), (t1, v1), (t2, v2), (t3, v3), (t4, v4)] L := Sub.cons h0 (Sub.cons h1 (Sub.cons h2 (Sub.cons h3 (Sub.cons h4 (Sub.nil _)))))
theorem sb6 {t0 t1 t2 t3 t4 t5 : Nat} {v0 v1 v2 v3 v4 v5 : Value} {L : Env} (h0 : look L t0 = some v0) (h1 : look L t1 = some v1) (h2 : look L t2 = some v2) (h3 : look L t3 = some v3) (h4 : look L t4 = some v4) (h5 : look L t5 = some v5) : Sub [(t0, v0), (t1, v1), (t2, v2), (t3, v3), (t4, v4), (t5, v5)] L := Sub.cons h0 (Sub.cons h1 (Sub.cons h2 (Sub.cons h3 (Sub.cons h4 (Sub.cons h5 (Sub.nil _))))))
theorem sb7 {t0 t1 t2 t3 t4 t5 t6 : Nat} {v0 v1 v2 v3 v4 v5 v6 : Value} {L : Env} (h0 : look L t0 = some v0) (h1 : look L t1 = some v1) (h2 : look L t2 = some v2) (h3 : look L t3 = some v3) (h4 : look L t4 = some v4) (h5 : look L t5 = some v5) (h6 : look L t6 = some v6) : Sub [(t0, v0), (t1, v1), (t2, v2), (t3, v3), (t4, v4), (t5, v5), (t6, v6)] L := Sub.cons h0 (Sub.cons h1 (Sub.cons h2 (Sub.cons h3 (Sub.cons h4 (Sub.cons h5 (Sub.cons h6 (Sub.nil _)))))))
theorem sb8 {t0 t1 t2 t3 t4 t5 t6 t7 : Nat} {v0 v1 v2 v3 v4 v5 v6 v7 : Value} {L : Env} (h0 : look L t0 = some v0) (h1 : look L t1 = some v1) (h2 : look L t2 = some v2) (h3 : look L t3 = some v3) (h4 : look L t4 = some v4) (h5 : look L t5 = some v5) (h6 : look L t6 = some v6) (h7 : look L t7 = some v7) : Sub [(t0, v0), (t1, v1), (t2, v2), (t3, v3), (t4, v4), (t5, v5), (t6, v6), (t7, v7)] L := Sub.cons h0 (Sub.cons h1 (Sub.cons h2 (Sub.cons h3 (Sub.cons h4 (Sub.cons h5 (Sub.cons h6 (Sub.cons h7 (Sub.nil _))))))))
theorem sb9 {t0 t1 t2 t3 t4 t5 t6 t7 t8 : Nat} {v0 v1 v2 v3 v4 v5 v6 v7 v8 : Value} {L : Env} (h0 : look L t0 = some v0) (h1 : look L t1 = some v1) (h2 : look L t2 = some v2) (h3 : look L t3 = some v3) (h4 : look L t4 = some v4) (h5 : look L t5 = some v5) (h6 : look L t6 = some v6) (h7 : look L t7 = some v7) (h8 : look L t8 = some v8) : Sub [(t0, v0), (t1, v1), (t2, v2), (t3, v3), (t4, v4), (t5, v5), (t6, v6), (t7, v7), (t8, v8)] L := Sub.cons h0 (Sub.cons h1 (Sub.cons h2 (Sub.cons h3 (Sub.cons h4 (Sub.cons h5 (Sub.cons h6 (Sub.cons h7 (Sub.cons h8 (Sub.nil _)))))))))
theorem sb10 {t0 t1 t2 t3 t4 t5 t6 t7 t8 t9 : Nat} {v0 v1 v2 v3 v4 v5 v6 v7 v8 v9 : Value} {L : Env} (h0 : look L t0 = some v0) (h1 : look L t1 = some v1) (h2 : look L t2 = some v2) (h3 : look L t3 = some v3) (h4 : look L t4 = some v4) (h5 : look L t5 = some v5) (h6 : look L t6 = some v6) (h7 : look L t7 = some v7) (h8 : look L t8 = some v8) (h9 : look L t9 = some v9) : Sub [(t0, v0), (t1, v1), (t2, v2), (t3, v3), (t4, v4), (t5, v5), (t6, v6), (t7, v7), (t8, v8), (t9, v9)] L := Sub.cons h0 (Sub.cons h1 (Sub.cons h2 (Sub.cons h3 (Sub.cons h4 (Sub.cons h5 (Sub.cons h6 (Sub.cons h7 (Sub.cons h8 (Sub.cons h9 (Sub.nil _))))))))))
theorem sb11 {t0 t1 t2 t3 t4 t5 t6 t7 t8 t9 t10 : Nat} {v0 v1 v2 v3 v4 v5 v6 v7 v8 v9 v10 : Value} {L : Env} (h0 : look L t0 = some v0) (h1 : look L t1 = some v1) (h2 : look L t2 = some v2) (h3 : look L t3 = some v3) (h4 : look L t4 = some v4) (h5 : look L t5 = some v5) (h6 : look L t6 = some v6) (h7 : look L t7 = some v7) (h8 : look L t8 = some v8) (h9 : look L t9 = some v9) (h10 : look L t10 = some v10) : Sub [(t0, v0), (t1, v1), (t2, v2), (t3, v3), (t4, v4), (t5, v5), (t6, v6), (t7, v7), (t8, v8), (t9, v9), (t10, v10)] L := Sub.cons h0 (Sub.cons h1 (Sub.cons h2 (Sub.cons h3 (Sub.cons h4 (Sub.cons h5 (Sub.cons h6 (Sub.cons h7 (Sub.cons h8 (Sub.cons h9 (Sub.cons h10 (Sub.nil _)))))))))))
theorem sb12 {t0 t1 t2 t3 t4 t5 t6 t7 t8 t9 t10 t11 : Nat} {v0 v1 v2 v3 v4 v5 v6 v7 v8 v9 v10 v11 : Value} {L : Env} (h0 : look L t0 = some v0) (h1 : look L t1 = some v1) (h2 : look L t2 = some v2) (h3 : look L t3 = some v3) (h4 : look L t4 = some v4) (h5 : look L t5 = some v5) (h6 : look L t6 = some v6) (h7 : look L t7 = some v7) (h8 : look L t8 = some v8) (h9 : look L t9 = some v9) (h10 : look L t10 = some v10) (h11 : look L t11 = some v11) : Sub [(t0, v0), (t1, v1), (t2, v2), (t3, v3), (t4, v4), (t5, v5), (t6, v6), (t7, v7), (t8, v8), (t9, v9), (t10, v10), (t11, v11)] L := Sub.cons h0 (Sub.cons h1 (Sub.cons h2 (Sub.cons h3 (Sub.cons h4 (Sub.cons h5 (Sub.cons h6 (Sub.cons h7 (Sub.cons h8 (Sub.cons h9 (Sub.cons h10 (Sub.cons h11 (Sub.nil _))))))))))))
theorem on2 {v0 v1 : Value} (h0 : v0.oneCell' = true) (h1 : v1.oneCell' = true) : ∀ u ∈ [v0, v1], u.oneCell' = true := one1 h0 (one1 h1 (one0))
theorem on3 {v0 v1 v2 : Value} (h0 : v0.oneCell' = true) (h1 : v1.oneCell' = true) (h2 : v2.oneCell' = true) : ∀ u ∈ [v0, v1, v2], u.oneCell' = true := one1 h0 (one1 h1 (one1 h2 (one0)))
theorem on4 {v0 v1 v2 v3 : Value} (h0 : v0.oneCell' = true) (h1 : v1.oneCell' = true) (h2 : v2.oneCell' = true) (h3 : v3.oneCell' = true) : ∀ u ∈ [v0, v1, v2, v3], u.oneCell' = true := one1 h0 (one1 h1 (one1 h2 (one1 h3 (one0))))
theorem on8 {v0 v1 v2 v3 v4 v5 v6 v7 : Value} (h0 : v0.oneCell' = true) (h1 : v1.oneCell' = true) (h2 : v2.oneCell' = true) (h3 : v3.oneCell' = true) (h4 : v4.oneCell' = true) (h5 : v5.oneCell' = true) (h6 : v6.oneCell' = true) (h7 : v7.oneCell' = true) : ∀ u ∈ [v0, v1, v2, v3, v4, v5, v6, v7], u.oneCell' = true := one1 h0 (one1 h1 (one1 h2 (one1 h3 (one1 h4 (one1 h5 (one1 h6 (one1 h7 (one0))))))))
theorem on27 {v0 v1 v2 v3 v4 v5 v6 v7 v8 v9 v10 v11 v12 v13 v14 v15 v16 v17 v18 v19 v20 v21 v22 v23 v24 v25 v26 : Value} (h0 : v0.oneCell' = true) (h1 : v1.oneCell' = true) (h2 : v2.oneCell' = true) (h3 : v3.oneCell' = true) (h4 : v4.oneCell' = true) (h5 : v5.oneCell' = true) (h6 : v6.oneCell' = true) (h7 : v7.oneCell' = true) (h8 : v8.oneCell' = true) (h9 : v9.oneCell' = true) (h10 : v10.oneCell' = true) (h11 : v11.oneCell' = true) (h12 : v12.oneCell' = true) (h13 : v13.oneCell' = true) (h14 : v14.oneCell' = true) (h15 : v15.oneCell' = true) (h16 : v16.oneCell' = true) (h17 : v17.oneCell' = true) (h18 : v18.oneCell' = true) (h19 : v19.oneCell' = true) (h20 : v20.oneCell' = true) (h21 : v21.oneCell' = true) (h22 : v22.oneCell' = true) (h23 : v23.oneCell' = true) (h24 : v24.oneCell' = true) (h25 : v25.oneCell' = true) (h26 : v26.oneCell' = true) : ∀ u ∈ [v0, v1, v2, v3, v4, v5, v6, v7, v8, v9, v10, v11, v12, v13, v14, v15, v16, v17, v18, v19, v20, v21, v22, v23, v24, v25, v26], u.oneCell' = true := one1 h0 (one1 h1 (one1 h2 (one1 h3 (one1 h4 (one1 h5 (one1 h6 (one1 h7 (one1 h8 (one1 h9 (one1 h10 (one1 h11 (one1 h12 (one1 h13 (one1 h14 (one1 h15 (one1 h16 (one1 h17 (one1 h18 (one1 h19 (one1 h20 (one1 h21 (one1 h22 (one1 h23 (one1 h24 (one1 h25 (one1 h26 (one0)))))))))))))))))))))))))))
def pick : List Nat → Env → Option Env
  | [], _ => some []
  | k :: ks, L => match look L k, pick ks L with
    | some v, some r => some ((k, v) :: r)
    | _, _ => none
theorem pick_sub : ∀ {ks : List Nat} {L L' : Env}, pick ks L' = some L → Sub L L'
  | [], _, _, h => by cases h; exact Sub.nil _
  | k :: ks, L, L', h => by
    unfold pick at h
    split at h
    · rename_i v r h1 h2
      cases h
      exact Sub.cons h1 (pick_sub h2)
    · cases h
theorem cw_keep {P : Program} {N : Nat} {ds : List Deferred} {L L' : Env} {w : World} {A B : Out} {X : Nat → Out} {Z : List PanicEntry → Out} {c : Code} (ks : List Nat) (hp : pick ks L' = some L) (h : CW P N c ds L w A B X Z) : CW P N c ds L' w A B X Z := cw_sub (pick_sub hp) h
theorem Reg.nilK {P : Program} {N : Nat} {ops : Array Oper} {ds : List Deferred} {L L0 : Env} {w : World} {A B : Out} {X : Nat → Out} {Z : List PanicEntry → Out} (ks : List Nat) (hp : pick ks L = some L0) (h : A ds L0 w) : Reg P N ops .seq [] ds L w A B X Z := Reg.nilS (pick_sub hp) h
end
end Go.Sx
namespace Go.Proofs.YtepjkmoipjeghaaDoor
open Go Go.Sx
/-- A report's cells. -/
abbrev vR (x : Report) : List Value := [vi x.id, vi x.source, vi x.account, vi x.made, vi x.about, vu x.kind, vi x.cents, vi x.of_]
abbrev zR : List Value := [vi 0, vi 0, vi 0, vi 0, vi 0, vu 0, vi 0, vi 0]
/-- The cells of what is told, ahead of others. -/
abbrev tV (x : Told) (v : Value) (l : List Value) : List Value := vu x.known :: vi x.cents :: vi x.since :: v :: l
abbrev tZ (l : List Value) : List Value := vu 0 :: vi 0 :: vi 0 :: vn :: l
abbrev zSt : List Value := tZ (tZ (tZ (tZ (tZ (tZ [vi 0, vi 0, vu 0])))))
end Go.Proofs.YtepjkmoipjeghaaDoor
namespace Go.Proofs.YtepjkmoipjeghaaDoor
open Go Go.Sx Go.RowKit
variable [Trk]
abbrev Ky3 : Ky Tryd.prog 3 Int := intKy .i64 Tryd.underlying3
/-- What the variable most holds. -/
def glob0 : List Int := [0, 0, 1000000000000, 1000000000000, 1000000000000, 10000, 1000000000000, 0, 1000000000000, 0]
theorem glob0_in {i y : Int} (h : ixo glob0 i = some y) : InK .i64 y := by
  obtain ⟨h0, h1, h2⟩ := ixo_out h
  have : y ∈ glob0 := List.mem_of_getElem? h2
  rw [InK.i64]
  simp [glob0] at this
  omega
end Go.Proofs.YtepjkmoipjeghaaDoor
set_option maxRecDepth 20000
set_option maxHeartbeats 4000000
namespace Go.Proofs.YtepjkmoipjeghaaDoor
open Go Go.Sx Go.RowKit
variable [Trk]
noncomputable def P.ref03_SameReports (a : (List Report)) (b : (List Report)) : Option Bool :=
  cond (!decide ((a.length : Int) = (b.length : Int))) (some false) (Option.bind (loopM (S := Int) (R := (Unit) ⊕ (Bool)) (fun x2 => cond (decide (x2 < (a.length : Int))) (Option.bind (ixo a x2) fun y4 => Option.bind (ixo b x2) fun y18 => cond (!decide (y4 = y18)) (some (.inr (.inr false))) (Option.bind (chk .i64 (x2 + 1)) fun n36 => some (.inl n36))) (some (.inr (.inl ())))) 0) fun j37 => Sum.elim (fun _ => some true) (fun r38 => some r38)  j37)
theorem C_ref03_SameReports {M : List Nat} {w : World} (hM : MLt M w) {a : (List Report)} {v_a_0 : Value} (f_a_0 : RdS ReportE M w v_a_0 a) {b : (List Report)} {v_b_0 : Value} (f_b_0 : RdS ReportE M w v_b_0 b) {r0 : Bool} (h : P.ref03_SameReports a b = some r0) :
  Calls Tryd.prog 19 (List.toArray [v_a_0, v_b_0]) w fun e w' => e = .returned (Value.bool r0) ∧ Ext w w' := by
 have hI := Hp.start (Mu := []) hM
 refine calls_cw Tryd.func19 rfl Tryd.ntmps19 rfl ?_
 refine cw_seq (cw_regF (s_as rfl rfl (Reg.nil (cw_seq (cw_seq (cw_regF (s_mv rfl rfl (s_len rfl f_a_0 Tryd.underlying22 rfl (s_mv rfl rfl (s_len rfl f_b_0 Tryd.underlying22 rfl (s_neq rfl rfl rfl ?_)))))))))))
 refine Reg.nil (cw_cond rfl (fun hc1 => ?_) (fun hc1 => ?_))
 ·replace h := cdT hc1 h
  refine cw_seq (cw_regF (s_as rfl rfl (Reg.nil (cw_ret ?_))))
  obtain rfl := Option.some.inj h
  refine fin1 Tryd.results19 rfl ?_
  exact ⟨rfl, hI.kp⟩
 replace h := cdF hc1 h
 refine cw_skip (cw_seq (cw_seq (cw_regF (s_as rfl rfl (Reg.nil ?_)))))
 obtain ⟨j2, h3, h⟩ := bnd h
 refine cw_keep [0, 1, 5] rfl (cw_unitD 3 (ι := Unit) (fun _ => []) (fun _ => fun w4 => Hp w [] M [] w4 ∧ Adv (mm [] M) (mm [] M) w w4 ∧ (.inl ()) = j2) ?_ ?_)
 ·refine cw_block (cw_keep [5, 0, 1] rfl ?_)
  refine cw_loopM 1 (ι := Int) _ (fun x7 => [(5, vi x7)]) (fun x7 => x7) (fun x7 => fun w9 => Hp w [] M [] w9 ∧ Adv (mm [] M) (mm [] M) w w9 ∧ InK .i64 x7) 0 h3 ⟨hI, (Adv.refl _ _), (by decide)⟩ (sb3 rfl rfl rfl) ?_
  rintro x7 w9 ⟨hI10, hA11, r8⟩ y12 h13 hR14
  refine cw_seq (cw_seq (cw_regF (s_mv rfl rfl (s_mv rfl rfl (s_len rfl (f_a_0.adv hI10.adv) Tryd.underlying22 rfl (s_lss rfl rfl rfl (Reg.nil (cw_cond rfl (fun hc15 => ?_) (fun hc15 => ?_)))))))))
  ·replace h13 := cdT hc15 h13
   refine cw_skip (cw_seq (cw_block (cw_seq ?_)))
   refine cw_regT fol (by kernel_rfl) ?_
   refine s_mv rfl rfl (s_mv rfl rfl ?_)
   obtain ⟨y16, hy16, h13⟩ := bnd h13
   refine p_ia rfl rfl (f_a_0.adv hI10.adv) hy16 Tryd.underlying22 Tryd.sizeOf61 rfl ?_
   intro b17 o18 cs19 hR20 hC21
   obtain ⟨rfl, r22, r23, r24, r25, r26, r27, r28, r29⟩ := ReportE_R.1 hR20
   refine s_lda rfl hC21.cells Tryd.isAgg61 rfl Tryd.sizeOf61 rfl (s_mv rfl rfl (s_mv rfl rfl ?_))
   obtain ⟨y30, hy30, h13⟩ := bnd h13
   refine p_ia rfl rfl (f_b_0.adv hI10.adv) hy30 Tryd.underlying22 Tryd.sizeOf61 rfl ?_
   intro b31 o32 cs33 hR34 hC35
   obtain ⟨rfl, r36, r37, r38, r39, r40, r41, r42, r43⟩ := ReportE_R.1 hR34
   refine s_lda rfl hC35.cells Tryd.isAgg61 rfl Tryd.sizeOf61 rfl (s_neS (Report_eq y16 y30) Tryd.eqGuardType61 rfl rfl rfl ?_)
   refine Reg.nilq (fun w44 e45 => ?_)
   have hI46 := hI10.ext e45
   refine cw_cond rfl (fun hc47 => ?_) (fun hc47 => ?_)
   ·replace h13 := cdT hc47 h13
    refine cw_seq (cw_regF (s_as rfl rfl (Reg.nil (cw_ret ?_))))
    obtain rfl := Option.some.inj h13
    obtain rfl := hR14 _ rfl
    replace h := elimR h
    obtain rfl := Option.some.inj h
    refine fin1 Tryd.results19 rfl ?_
    exact ⟨rfl, hI46.kp⟩
   replace h13 := cdF hc47 h13
   refine cw_skip (cw_regF (s_mv rfl rfl ?_))
   obtain ⟨n48, hn48, h13⟩ := bnd h13
   replace hn48 := chk_out hn48
   refine p_add rfl rfl rfl hn48 (s_as rfl rfl (Reg.nil ?_))
   obtain rfl := Option.some.inj h13
   refine ⟨rfl, n48, ⟨⟨hI46, hI46.adv, hn48.2⟩, rfl⟩, sb3 rfl rfl rfl⟩
  replace h13 := cdF hc15 h13
  refine cw_exit (exB_same ?_)
  obtain rfl := Option.some.inj h13
  obtain rfl := hR14 _ rfl
  refine ⟨rfl, (), ⟨hI10, hI10.adv, rfl⟩, Sub.nil _⟩
 rintro _ w4 ⟨hI5, hA6, rfl⟩
 replace h := elimL h
 refine cw_seq (cw_regF (s_as rfl rfl (Reg.nil (cw_ret ?_))))
 obtain rfl := Option.some.inj h
 refine fin1 Tryd.results19 rfl ?_
 exact ⟨rfl, hI5.kp⟩
noncomputable def P.ref03_within (n : Int) (lo : Int) (hi : Int) : Option Bool :=
  Option.bind (cond (decide (lo ≤ n)) (some (decide (n ≤ hi))) (some false)) fun x2 => some x2
theorem C_ref03_within {M : List Nat} {w : World} (hM : MLt M w) {n : Int} (f_n_0 : InK .i64 n) {lo : Int} (f_lo_0 : InK .i64 lo) {hi : Int} (f_hi_0 : InK .i64 hi) {r0 : Bool} (h : P.ref03_within n lo hi = some r0) :
  Calls Tryd.prog 39 (List.toArray [vi n, vi lo, vi hi]) w fun e w' => e = .returned (Value.bool r0) ∧ Ext w w' := by
 have hI := Hp.start (Mu := []) hM
 refine calls_cw Tryd.func39 rfl Tryd.ntmps39 rfl ?_
 refine cw_seq (cw_regF (s_as rfl rfl (Reg.nil ?_)))
 obtain ⟨j1, h2, h⟩ := bnd h
 refine cw_keep [0, 1, 2] rfl (cw_seqD 3 (ι := Bool) (fun x3 => [(6, Value.bool x3)]) (fun x3 => fun w4 => w = w4 ∧ x3 = j1) ?_ ?_)
 ·refine cw_regF (s_mv rfl rfl (s_mv rfl rfl (s_geq rfl rfl rfl (s_mv rfl rfl (Reg.gsplit (t := 10) rfl (fun hg7 => ?_) (fun hg7 => ?_))))))
  ·replace h2 := cdT hg7 h2
   refine Reg.take rfl rfl (s_mv rfl rfl (Reg.take rfl rfl (s_mv rfl rfl (Reg.take rfl rfl (s_leq rfl rfl rfl (s_pkT rfl rfl rfl (s_as rfl rfl (Reg.nil ?_))))))))
   obtain rfl := Option.some.inj h2
   refine ⟨rfl, decide (n ≤ hi), ⟨rfl, rfl⟩, sb1 rfl⟩
  replace h2 := cdF hg7 h2
  iterate 3 refine Reg.pass rfl rfl rfl rfl ?_
  refine s_pkF rfl rfl rfl (s_as rfl rfl (Reg.nil ?_))
  obtain rfl := Option.some.inj h2
  refine ⟨rfl, false, ⟨rfl, rfl⟩, sb1 rfl⟩
 rintro x3 _ ⟨rfl, rfl⟩
 refine cw_ret ?_
 obtain rfl := Option.some.inj h
 refine fin1 Tryd.results39 rfl ?_
 exact ⟨rfl, hI.kp⟩
noncomputable def P.ref03_cents (kind : Int) (n : Int) : Option Bool :=
  Option.bind (Option.bind (cond (decide (kind = 1)) (some (decide (kind = 1))) (some (decide (kind = 7)))) fun x2 => some x2) fun x3 => cond x3 (some (decide (n = 0))) (cond (decide (kind = 5)) (Option.bind (P.ref03_within n 0 10000) fun z6 => some z6) (Option.bind (P.ref03_within n 0 1000000000000) fun z11 => some z11))
theorem C_ref03_cents {M : List Nat} {w : World} (hM : MLt M w) {kind : Int} (f_kind_0 : InK .u8 kind) {n : Int} (f_n_0 : InK .i64 n) {r0 : Bool} (h : P.ref03_cents kind n = some r0) :
  Calls Tryd.prog 78 (List.toArray [vu kind, vi n]) w fun e w' => e = .returned (Value.bool r0) ∧ Ext w w' := by
 have hI := Hp.start (Mu := []) hM
 refine calls_cw Tryd.func78 rfl Tryd.ntmps78 rfl ?_
 refine cw_seq (cw_regF (s_as rfl rfl (Reg.nil (cw_seq (cw_seq (cw_regF (s_mv rfl rfl (Reg.nil (cw_block ?_)))))))))
 obtain ⟨j1, h2, h⟩ := bnd h
 refine cw_keep [1, 5] rfl (cw_seqD 0 (ι := Bool) (fun x3 => [(6, Value.bool x3)]) (fun x3 => fun w4 => w = w4 ∧ x3 = j1) ?_ ?_)
 ·refine cw_seq (cw_regF (s_eql rfl rfl rfl (s_as rfl rfl (Reg.nil ?_))))
  obtain ⟨j7, h8, h2⟩ := bnd h2
  refine cw_keep [6, 1, 5] rfl (cw_unitD 1 (ι := Bool) (fun x9 => [(6, Value.bool x9)]) (fun x9 => fun w10 => w = w10 ∧ x9 = j7) ?_ ?_)
  ·refine cw_cond rfl (fun hc13 => ?_) (fun hc13 => ?_)
   ·replace h8 := cdT hc13 h8
    refine cw_skip ?_
    obtain rfl := Option.some.inj h8
    refine ⟨rfl, decide (kind = 1), ⟨rfl, rfl⟩, sb3 rfl rfl rfl⟩
   replace h8 := cdF hc13 h8
   refine cw_regF (s_eql rfl rfl rfl (s_as rfl rfl (Reg.nil ?_)))
   obtain rfl := Option.some.inj h8
   refine ⟨rfl, decide (kind = 7), ⟨rfl, rfl⟩, sb3 rfl rfl rfl⟩
  rintro x9 _ ⟨rfl, rfl⟩
  obtain rfl := Option.some.inj h2
  refine ⟨rfl, x9, ⟨rfl, rfl⟩, sb3 rfl rfl rfl⟩
 rintro x3 _ ⟨rfl, rfl⟩
 refine cw_cond rfl (fun hc14 => ?_) (fun hc14 => ?_)
 ·replace h := cdT hc14 h
  refine cw_seq (cw_regF (s_mv rfl rfl (s_eql rfl rfl rfl (s_as rfl rfl (Reg.nil (cw_ret ?_))))))
  obtain rfl := Option.some.inj h
  refine fin1 Tryd.results78 rfl ?_
  exact ⟨rfl, hI.kp⟩
 replace h := cdF hc14 h
 refine cw_seq (cw_regF (s_eql rfl rfl rfl (s_as rfl rfl (Reg.nil (cw_cond rfl (fun hc15 => ?_) (fun hc15 => ?_))))))
 ·replace h := cdT hc15 h
  refine cw_seq (cw_regF (s_mv rfl rfl ?_))
  obtain ⟨z16, hz17, h⟩ := bnd h
  refine s_call rfl Tryd.call39 rfl ?_
  refine (C_ref03_within hI.mlt f_n_0 (by decide) (by decide) hz17).mono ?_
  rintro _ w18 ⟨rfl, e19⟩
  refine ⟨_, rfl, ?_⟩
  have hI20 := hI.ext e19
  refine s_as rfl rfl (Reg.nil (cw_ret ?_))
  obtain rfl := Option.some.inj h
  refine fin1 Tryd.results78 rfl ?_
  exact ⟨rfl, hI20.kp⟩
 replace h := cdF hc15 h
 refine cw_skip (cw_seq (cw_regF (s_mv rfl rfl ?_)))
 obtain ⟨z21, hz22, h⟩ := bnd h
 refine s_call rfl Tryd.call39 rfl ?_
 refine (C_ref03_within hI.mlt f_n_0 (by decide) (by decide) hz22).mono ?_
 rintro _ w23 ⟨rfl, e24⟩
 refine ⟨_, rfl, ?_⟩
 have hI25 := hI.ext e24
 refine s_as rfl rfl (Reg.nil (cw_ret ?_))
 obtain rfl := Option.some.inj h
 refine fin1 Tryd.results78 rfl ?_
 exact ⟨rfl, hI25.kp⟩
noncomputable def P.ref03_Valid (r : Report) : Option Bool :=
  Option.bind (Option.bind (P.ref03_within r.id 0 999999) fun z7 => cond (!z7) (some true) (Option.bind (P.ref03_within r.source 0 999999) fun z13 => cond (!z13) (some true) (Option.bind (P.ref03_within r.account 0 999999) fun z19 => cond (!z19) (some true) (Option.bind (P.ref03_within r.made 0 100000) fun z25 => cond (!z25) (some true) (Option.bind (P.ref03_within r.about 0 100000) fun z31 => cond (!z31) (some true) (Option.bind (chk .i64 r.kind) fun n37 => Option.bind (P.ref03_within n37 1 9) fun z38 => some (!z38))))))) fun x43 => cond x43 (some false) (cond (decide (r.kind ≤ 7)) (Option.bind (Option.bind (P.ref03_cents r.kind r.cents) fun z46 => cond z46 (some (decide (r.of_ = 0))) (some false)) fun x52 => some x52) (Option.bind (Option.bind (P.ref03_within r.of_ 0 999999) fun z53 => cond (!z53) (some true) (some (decide (r.of_ = r.id)))) fun x59 => cond x59 (some false) (cond (decide (r.kind = 8)) (Option.bind (P.ref03_within r.cents 0 1000000000000) fun z62 => some z62) (Option.bind (cond (decide (r.cents = 0)) (some (decide (r.about = 0))) (some false)) fun x68 => some x68))))
theorem C_ref03_Valid {M : List Nat} {w : World} (hM : MLt M w) {r : Report} (f_r_0 : InK .i64 r.id) (f_r_1 : InK .i64 r.source) (f_r_2 : InK .i64 r.account) (f_r_3 : InK .i64 r.made) (f_r_4 : InK .i64 r.about) (f_r_5 : InK .u8 r.kind) (f_r_6 : InK .i64 r.cents) (f_r_7 : InK .i64 r.of_) {r0 : Bool} (h : P.ref03_Valid r = some r0) :
  Calls Tryd.prog 51 (List.toArray [Value.agg (List.toArray (vR r))]) w fun e w' => e = .returned (Value.bool r0) ∧ Ext w w' := by
 have hI := Hp.start (Mu := []) hM
 refine calls_cw Tryd.func51 rfl Tryd.ntmps51 rfl ?_
 refine cw_seq (cw_regF (y_box hI rfl rfl rfl ?_))
 intro b1 w2 hI3 x4
 have hC6 := hI3.freezeRow 0 rfl
 have hI5 := hI3.erase 0
 refine s_as rfl rfl (Reg.nil (cw_seq ?_))
 obtain ⟨j7, h8, h⟩ := bnd h
 refine cw_keep [1] rfl (cw_seqD 0 (ι := Bool) (fun x9 => [(37, Value.bool x9)]) (fun x9 => fun w10 => Hp w [] M [] w10 ∧ Adv (mm [] M) (mm [] M) w2 w10 ∧ x9 = j7) ?_ ?_)
 ·refine cw_regF (s_fa rfl Tryd.underlying61 rfl Tryd.sizeOf3 rfl (s_ld rfl (hC6.cells.at 0 rfl) Tryd.isAgg3 rfl ?_))
  obtain ⟨z13, hz14, h8⟩ := bnd h8
  refine s_call rfl Tryd.call39 rfl ?_
  refine (C_ref03_within hI5.mlt f_r_0 (by decide) (by decide) hz14).mono ?_
  rintro _ w15 ⟨rfl, e16⟩
  refine ⟨_, rfl, ?_⟩
  have hI17 := hI5.ext e16
  refine s_not rfl rfl (s_mv rfl rfl (Reg.gsplit (t := 7) rfl (fun hg18 => ?_) (fun hg18 => ?_)))
  ·replace h8 := cdT hg18 h8
   iterate 4 refine Reg.pass rfl rfl rfl rfl ?_
   refine s_pkT rfl rfl rfl (s_mv rfl rfl ?_)
   iterate 4 refine Reg.pass rfl rfl rfl rfl ?_
   refine s_pkT rfl rfl rfl (s_mv rfl rfl ?_)
   iterate 4 refine Reg.pass rfl rfl rfl rfl ?_
   refine s_pkT rfl rfl rfl (s_mv rfl rfl ?_)
   iterate 4 refine Reg.pass rfl rfl rfl rfl ?_
   refine s_pkT rfl rfl rfl (s_mv rfl rfl ?_)
   iterate 5 refine Reg.pass rfl rfl rfl rfl ?_
   refine s_pkT rfl rfl rfl (Reg.nil ?_)
   obtain rfl := Option.some.inj h8
   refine ⟨rfl, true, ⟨hI17, (Adv.of_ext e16), rfl⟩, sb2 rfl rfl⟩
  replace h8 := cdF hg18 h8
  refine Reg.take rfl rfl (s_fa rfl Tryd.underlying61 rfl Tryd.sizeOf3 rfl (Reg.take rfl rfl (s_ld rfl ((hC6.adv (Adv.of_ext e16)).cells.at 1 rfl) Tryd.isAgg3 rfl (Reg.take rfl rfl ?_))))
  obtain ⟨z19, hz20, h8⟩ := bnd h8
  refine s_call rfl Tryd.call39 rfl ?_
  refine (C_ref03_within hI17.mlt f_r_1 (by decide) (by decide) hz20).mono ?_
  rintro _ w21 ⟨rfl, e22⟩
  refine ⟨_, rfl, ?_⟩
  have hI23 := hI17.ext e22
  refine Reg.take rfl rfl (s_not rfl rfl (s_pkF rfl rfl rfl (s_mv rfl rfl (Reg.gsplit (t := 13) rfl (fun hg24 => ?_) (fun hg24 => ?_)))))
  ·replace h8 := cdT hg24 h8
   iterate 4 refine Reg.pass rfl rfl rfl rfl ?_
   refine s_pkT rfl rfl rfl (s_mv rfl rfl ?_)
   iterate 4 refine Reg.pass rfl rfl rfl rfl ?_
   refine s_pkT rfl rfl rfl (s_mv rfl rfl ?_)
   iterate 4 refine Reg.pass rfl rfl rfl rfl ?_
   refine s_pkT rfl rfl rfl (s_mv rfl rfl ?_)
   iterate 5 refine Reg.pass rfl rfl rfl rfl ?_
   refine s_pkT rfl rfl rfl (Reg.nil ?_)
   obtain rfl := Option.some.inj h8
   refine ⟨rfl, true, ⟨hI23, ((Adv.of_ext e16).trans (Adv.of_ext e22)), rfl⟩, sb2 rfl rfl⟩
  replace h8 := cdF hg24 h8
  refine Reg.take rfl rfl (s_fa rfl Tryd.underlying61 rfl Tryd.sizeOf3 rfl (Reg.take rfl rfl (s_ld rfl ((hC6.adv ((Adv.of_ext e16).trans (Adv.of_ext e22))).cells.at 2 rfl) Tryd.isAgg3 rfl (Reg.take rfl rfl ?_))))
  obtain ⟨z25, hz26, h8⟩ := bnd h8
  refine s_call rfl Tryd.call39 rfl ?_
  refine (C_ref03_within hI23.mlt f_r_2 (by decide) (by decide) hz26).mono ?_
  rintro _ w27 ⟨rfl, e28⟩
  refine ⟨_, rfl, ?_⟩
  have hI29 := hI23.ext e28
  refine Reg.take rfl rfl (s_not rfl rfl (s_pkF rfl rfl rfl (s_mv rfl rfl (Reg.gsplit (t := 19) rfl (fun hg30 => ?_) (fun hg30 => ?_)))))
  ·replace h8 := cdT hg30 h8
   iterate 4 refine Reg.pass rfl rfl rfl rfl ?_
   refine s_pkT rfl rfl rfl (s_mv rfl rfl ?_)
   iterate 4 refine Reg.pass rfl rfl rfl rfl ?_
   refine s_pkT rfl rfl rfl (s_mv rfl rfl ?_)
   iterate 5 refine Reg.pass rfl rfl rfl rfl ?_
   refine s_pkT rfl rfl rfl (Reg.nil ?_)
   obtain rfl := Option.some.inj h8
   refine ⟨rfl, true, ⟨hI29, ((Adv.of_ext e16).trans ((Adv.of_ext e22).trans (Adv.of_ext e28))), rfl⟩, sb2 rfl rfl⟩
  replace h8 := cdF hg30 h8
  refine Reg.take rfl rfl (s_fa rfl Tryd.underlying61 rfl Tryd.sizeOf3 rfl (Reg.take rfl rfl (s_ld rfl ((hC6.adv ((Adv.of_ext e16).trans ((Adv.of_ext e22).trans (Adv.of_ext e28)))).cells.at 3 rfl) Tryd.isAgg3 rfl (Reg.take rfl rfl ?_))))
  obtain ⟨z31, hz32, h8⟩ := bnd h8
  refine s_call rfl Tryd.call39 rfl ?_
  refine (C_ref03_within hI29.mlt f_r_3 (by decide) (by decide) hz32).mono ?_
  rintro _ w33 ⟨rfl, e34⟩
  refine ⟨_, rfl, ?_⟩
  have hI35 := hI29.ext e34
  refine Reg.take rfl rfl (s_not rfl rfl (s_pkF rfl rfl rfl (s_mv rfl rfl (Reg.gsplit (t := 25) rfl (fun hg36 => ?_) (fun hg36 => ?_)))))
  ·replace h8 := cdT hg36 h8
   iterate 4 refine Reg.pass rfl rfl rfl rfl ?_
   refine s_pkT rfl rfl rfl (s_mv rfl rfl ?_)
   iterate 5 refine Reg.pass rfl rfl rfl rfl ?_
   refine s_pkT rfl rfl rfl (Reg.nil ?_)
   obtain rfl := Option.some.inj h8
   refine ⟨rfl, true, ⟨hI35, ((Adv.of_ext e16).trans ((Adv.of_ext e22).trans ((Adv.of_ext e28).trans (Adv.of_ext e34)))), rfl⟩, sb2 rfl rfl⟩
  replace h8 := cdF hg36 h8
  refine Reg.take rfl rfl (s_fa rfl Tryd.underlying61 rfl Tryd.sizeOf3 rfl (Reg.take rfl rfl (s_ld rfl ((hC6.adv ((Adv.of_ext e16).trans ((Adv.of_ext e22).trans ((Adv.of_ext e28).trans (Adv.of_ext e34))))).cells.at 4 rfl) Tryd.isAgg3 rfl (Reg.take rfl rfl ?_))))
  obtain ⟨z37, hz38, h8⟩ := bnd h8
  refine s_call rfl Tryd.call39 rfl ?_
  refine (C_ref03_within hI35.mlt f_r_4 (by decide) (by decide) hz38).mono ?_
  rintro _ w39 ⟨rfl, e40⟩
  refine ⟨_, rfl, ?_⟩
  have hI41 := hI35.ext e40
  refine Reg.take rfl rfl (s_not rfl rfl (s_pkF rfl rfl rfl (s_mv rfl rfl (Reg.gsplit (t := 31) rfl (fun hg42 => ?_) (fun hg42 => ?_)))))
  ·replace h8 := cdT hg42 h8
   iterate 5 refine Reg.pass rfl rfl rfl rfl ?_
   refine s_pkT rfl rfl rfl (Reg.nil ?_)
   obtain rfl := Option.some.inj h8
   refine ⟨rfl, true, ⟨hI41, ((Adv.of_ext e16).trans ((Adv.of_ext e22).trans ((Adv.of_ext e28).trans ((Adv.of_ext e34).trans (Adv.of_ext e40))))), rfl⟩, sb2 rfl rfl⟩
  replace h8 := cdF hg42 h8
  refine Reg.take rfl rfl (s_fa rfl Tryd.underlying61 rfl Tryd.sizeOf5 rfl (Reg.take rfl rfl (s_ld rfl ((hC6.adv ((Adv.of_ext e16).trans ((Adv.of_ext e22).trans ((Adv.of_ext e28).trans ((Adv.of_ext e34).trans (Adv.of_ext e40)))))).cells.at 5 rfl) Tryd.isAgg5 rfl (Reg.take rfl rfl ?_))))
  obtain ⟨n43, hn43, h8⟩ := bnd h8
  replace hn43 := chk_out hn43
  refine p_cvt rfl Tryd.underlying5 Tryd.underlying3 rfl hn43 ?_
  refine Reg.take rfl rfl ?_
  obtain ⟨z44, hz45, h8⟩ := bnd h8
  refine s_call rfl Tryd.call39 rfl ?_
  refine (C_ref03_within hI41.mlt hn43.2 (by decide) (by decide) hz45).mono ?_
  rintro _ w46 ⟨rfl, e47⟩
  refine ⟨_, rfl, ?_⟩
  have hI48 := hI41.ext e47
  refine Reg.take rfl rfl (s_not rfl rfl (s_pkF rfl rfl rfl (Reg.nil ?_)))
  obtain rfl := Option.some.inj h8
  refine ⟨rfl, !z44, ⟨hI48, ((Adv.of_ext e16).trans ((Adv.of_ext e22).trans ((Adv.of_ext e28).trans ((Adv.of_ext e34).trans ((Adv.of_ext e40).trans (Adv.of_ext e47)))))), rfl⟩, sb2 rfl rfl⟩
 rintro x9 w10 ⟨hI11, hA12, rfl⟩
 refine cw_cond rfl (fun hc49 => ?_) (fun hc49 => ?_)
 ·replace h := cdT hc49 h
  refine cw_seq (cw_regF (s_as rfl rfl (Reg.nil (cw_ret ?_))))
  obtain rfl := Option.some.inj h
  refine fin1 Tryd.results51 rfl ?_
  exact ⟨rfl, hI11.kp⟩
 replace h := cdF hc49 h
 refine cw_skip (cw_seq (cw_seq (cw_regF (s_fa rfl Tryd.underlying61 rfl Tryd.sizeOf5 rfl (s_ld rfl ((hC6.adv hA12).cells.at 5 rfl) Tryd.isAgg5 rfl (s_leq rfl rfl rfl (Reg.nil (cw_cond rfl (fun hc50 => ?_) (fun hc50 => ?_)))))))))
 ·replace h := cdT hc50 h
  obtain ⟨j51, h52, h⟩ := bnd h
  refine cw_keep [1] rfl (cw_seqD 1 (ι := Bool) (fun x53 => [(2, Value.bool x53)]) (fun x53 => fun w54 => Hp w [] M [] w54 ∧ Adv (mm [] M) (mm [] M) w10 w54 ∧ x53 = j51) ?_ ?_)
  ·refine cw_regF (s_fa rfl Tryd.underlying61 rfl Tryd.sizeOf5 rfl (s_ld rfl ((hC6.adv hA12).cells.at 5 rfl) Tryd.isAgg5 rfl (s_fa rfl Tryd.underlying61 rfl Tryd.sizeOf3 rfl (s_ld rfl ((hC6.adv hA12).cells.at 6 rfl) Tryd.isAgg3 rfl ?_))))
   obtain ⟨z57, hz58, h52⟩ := bnd h52
   refine s_call rfl Tryd.call78 rfl ((C_ref03_cents hI11.mlt f_r_5 f_r_6 hz58).mono ?_)
   rintro _ w59 ⟨rfl, e60⟩
   refine ⟨_, rfl, ?_⟩
   have hI61 := hI11.ext e60
   refine s_mv rfl rfl (Reg.gsplit (t := 46) rfl (fun hg62 => ?_) (fun hg62 => ?_))
   ·replace h52 := cdT hg62 h52
    refine Reg.take rfl rfl (s_fa rfl Tryd.underlying61 rfl Tryd.sizeOf3 rfl (Reg.take rfl rfl (s_ld rfl ((hC6.adv (hA12.trans (Adv.of_ext e60))).cells.at 7 rfl) Tryd.isAgg3 rfl (Reg.take rfl rfl (s_eql rfl rfl rfl (s_pkT rfl rfl rfl (s_as rfl rfl (Reg.nil ?_))))))))
    obtain rfl := Option.some.inj h52
    refine ⟨rfl, decide (r.of_ = 0), ⟨hI61, (Adv.of_ext e60), rfl⟩, sb1 rfl⟩
   replace h52 := cdF hg62 h52
   iterate 3 refine Reg.pass rfl rfl rfl rfl ?_
   refine s_pkF rfl rfl rfl (s_as rfl rfl (Reg.nil ?_))
   obtain rfl := Option.some.inj h52
   refine ⟨rfl, false, ⟨hI61, (Adv.of_ext e60), rfl⟩, sb1 rfl⟩
  rintro x53 w54 ⟨hI55, hA56, rfl⟩
  refine cw_ret ?_
  obtain rfl := Option.some.inj h
  refine fin1 Tryd.results51 rfl ?_
  exact ⟨rfl, hI55.kp⟩
 replace h := cdF hc50 h
 refine cw_skip (cw_seq ?_)
 obtain ⟨j63, h64, h⟩ := bnd h
 refine cw_keep [1] rfl (cw_seqD 0 (ι := Bool) (fun x65 => [(61, Value.bool x65)]) (fun x65 => fun w66 => Hp w [] M [] w66 ∧ Adv (mm [] M) (mm [] M) w10 w66 ∧ x65 = j63) ?_ ?_)
 ·refine cw_regF (s_fa rfl Tryd.underlying61 rfl Tryd.sizeOf3 rfl (s_ld rfl ((hC6.adv hA12).cells.at 7 rfl) Tryd.isAgg3 rfl ?_))
  obtain ⟨z69, hz70, h64⟩ := bnd h64
  refine s_call rfl Tryd.call39 rfl ?_
  refine (C_ref03_within hI11.mlt f_r_7 (by decide) (by decide) hz70).mono ?_
  rintro _ w71 ⟨rfl, e72⟩
  refine ⟨_, rfl, ?_⟩
  have hI73 := hI11.ext e72
  refine s_not rfl rfl (s_mv rfl rfl (Reg.gsplit (t := 55) rfl (fun hg74 => ?_) (fun hg74 => ?_)))
  ·replace h64 := cdT hg74 h64
   iterate 5 refine Reg.pass rfl rfl rfl rfl ?_
   refine s_pkT rfl rfl rfl (Reg.nil ?_)
   obtain rfl := Option.some.inj h64
   refine ⟨rfl, true, ⟨hI73, (Adv.of_ext e72), rfl⟩, sb2 rfl rfl⟩
  replace h64 := cdF hg74 h64
  refine Reg.take rfl rfl (s_fa rfl Tryd.underlying61 rfl Tryd.sizeOf3 rfl (Reg.take rfl rfl (s_ld rfl ((hC6.adv (hA12.trans (Adv.of_ext e72))).cells.at 7 rfl) Tryd.isAgg3 rfl (Reg.take rfl rfl (s_fa rfl Tryd.underlying61 rfl Tryd.sizeOf3 rfl (Reg.take rfl rfl (s_ld rfl ((hC6.adv (hA12.trans (Adv.of_ext e72))).cells.at 0 rfl) Tryd.isAgg3 rfl (Reg.take rfl rfl (s_eql rfl rfl rfl (s_pkF rfl rfl rfl (Reg.nil ?_)))))))))))
  obtain rfl := Option.some.inj h64
  refine ⟨rfl, decide (r.of_ = r.id), ⟨hI73, (Adv.of_ext e72), rfl⟩, sb2 rfl rfl⟩
 rintro x65 w66 ⟨hI67, hA68, rfl⟩
 refine cw_cond rfl (fun hc75 => ?_) (fun hc75 => ?_)
 ·replace h := cdT hc75 h
  refine cw_seq (cw_regF (s_as rfl rfl (Reg.nil (cw_ret ?_))))
  obtain rfl := Option.some.inj h
  refine fin1 Tryd.results51 rfl ?_
  exact ⟨rfl, hI67.kp⟩
 replace h := cdF hc75 h
 refine cw_skip (cw_seq (cw_seq (cw_regF (s_fa rfl Tryd.underlying61 rfl Tryd.sizeOf5 rfl (s_ld rfl ((hC6.adv (hA12.trans hA68)).cells.at 5 rfl) Tryd.isAgg5 rfl (s_eql rfl rfl rfl (Reg.nil (cw_cond rfl (fun hc76 => ?_) (fun hc76 => ?_)))))))))
 ·replace h := cdT hc76 h
  refine cw_seq (cw_regF (s_fa rfl Tryd.underlying61 rfl Tryd.sizeOf3 rfl (s_ld rfl ((hC6.adv (hA12.trans hA68)).cells.at 6 rfl) Tryd.isAgg3 rfl ?_)))
  obtain ⟨z77, hz78, h⟩ := bnd h
  refine s_call rfl Tryd.call39 rfl ?_
  refine (C_ref03_within hI67.mlt f_r_6 (by decide) (by decide) hz78).mono ?_
  rintro _ w79 ⟨rfl, e80⟩
  refine ⟨_, rfl, ?_⟩
  have hI81 := hI67.ext e80
  refine s_as rfl rfl (Reg.nil (cw_ret ?_))
  obtain rfl := Option.some.inj h
  refine fin1 Tryd.results51 rfl ?_
  exact ⟨rfl, hI81.kp⟩
 replace h := cdF hc76 h
 refine cw_skip ?_
 obtain ⟨j82, h83, h⟩ := bnd h
 refine cw_keep [1] rfl (cw_seqD 1 (ι := Bool) (fun x84 => [(2, Value.bool x84)]) (fun x84 => fun w85 => w66 = w85 ∧ x84 = j82) ?_ ?_)
 ·refine cw_regF (s_fa rfl Tryd.underlying61 rfl Tryd.sizeOf3 rfl (s_ld rfl ((hC6.adv (hA12.trans hA68)).cells.at 6 rfl) Tryd.isAgg3 rfl (s_eql rfl rfl rfl (s_mv rfl rfl (Reg.gsplit (t := 71) rfl (fun hg88 => ?_) (fun hg88 => ?_))))))
  ·replace h83 := cdT hg88 h83
   refine Reg.take rfl rfl (s_fa rfl Tryd.underlying61 rfl Tryd.sizeOf3 rfl (Reg.take rfl rfl (s_ld rfl ((hC6.adv (hA12.trans hA68)).cells.at 4 rfl) Tryd.isAgg3 rfl (Reg.take rfl rfl (s_eql rfl rfl rfl (s_pkT rfl rfl rfl (s_as rfl rfl (Reg.nil ?_))))))))
   obtain rfl := Option.some.inj h83
   refine ⟨rfl, decide (r.about = 0), ⟨rfl, rfl⟩, sb1 rfl⟩
  replace h83 := cdF hg88 h83
  iterate 3 refine Reg.pass rfl rfl rfl rfl ?_
  refine s_pkF rfl rfl rfl (s_as rfl rfl (Reg.nil ?_))
  obtain rfl := Option.some.inj h83
  refine ⟨rfl, false, ⟨rfl, rfl⟩, sb1 rfl⟩
 rintro x84 _ ⟨rfl, rfl⟩
 refine cw_ret ?_
 obtain rfl := Option.some.inj h
 refine fin1 Tryd.results51 rfl ?_
 exact ⟨rfl, hI67.kp⟩
noncomputable def P.ref03_Check (l : (List Report)) : Option Int :=
  cond (decide (60 < (l.length : Int))) (some 4) (Option.bind (loopM (S := Int) (R := (Unit) ⊕ (Int)) (fun x2 => cond (decide (x2 < (l.length : Int))) (Option.bind (ixo l x2) fun y4 => Option.bind (P.ref03_Valid y4) fun z18 => cond (!z18) (some (.inr (.inr 30))) (Option.bind (chk .i64 (x2 + 1)) fun n24 => some (.inl n24))) (some (.inr (.inl ())))) 0) fun j25 => Sum.elim (fun _ => Option.bind (loopM (S := Int) (R := (Unit) ⊕ (Int)) (fun x26 => cond (decide (x26 < (l.length : Int))) (Option.bind (loopM (S := Int) (R := (Unit) ⊕ (Int)) (fun x28 => cond (decide (x28 < x26)) (Option.bind (Option.bind (ixo l x26) fun y30 => Option.bind (ixo l x28) fun y44 => cond (decide (y30.id = y44.id)) (Option.bind (ixo l x26) fun y59 => Option.bind (ixo l x28) fun y73 => some (!decide (y59 = y73))) (some false)) fun x93 => cond x93 (some (.inr (.inr 31))) (Option.bind (chk .i64 (x28 + 1)) fun n95 => some (.inl n95))) (some (.inr (.inl ())))) 0) fun j96 => Sum.elim (fun _ => Option.bind (chk .i64 (x26 + 1)) fun n97 => some (.inl n97)) (fun r98 => some (.inr (.inr r98)))  j96) (some (.inr (.inl ())))) 0) fun j99 => Sum.elim (fun _ => some 0) (fun r100 => some r100)  j99) (fun r101 => some r101)  j25)
theorem C_ref03_Check {M : List Nat} {w : World} (hM : MLt M w) {l : (List Report)} {v_l_0 : Value} (f_l_0 : RdS ReportE M w v_l_0 l) {r0 : Int} (h : P.ref03_Check l = some r0) :
  Calls Tryd.prog 18 (List.toArray [v_l_0]) w fun e w' => e = .returned (vi r0) ∧ InK .i64 r0 ∧ Ext w w' := by
 have hI := Hp.start (Mu := []) hM
 refine calls_cw Tryd.func18 rfl Tryd.ntmps18 rfl ?_
 refine cw_seq (cw_regF (s_as rfl rfl (Reg.nil (cw_seq (cw_seq (cw_regF (s_mv rfl rfl (s_len rfl f_l_0 Tryd.underlying22 rfl (s_gtr rfl rfl rfl (Reg.nil (cw_cond rfl (fun hc1 => ?_) (fun hc1 => ?_))))))))))))
 ·replace h := cdT hc1 h
  refine cw_seq (cw_regF (s_as rfl rfl (Reg.nil (cw_ret ?_))))
  obtain rfl := Option.some.inj h
  refine fin1 Tryd.results18 rfl ?_
  exact ⟨rfl, (by decide), hI.kp⟩
 replace h := cdF hc1 h
 refine cw_skip (cw_seq (cw_seq (cw_regF (s_as rfl rfl (Reg.nil ?_)))))
 obtain ⟨j2, h3, h⟩ := bnd h
 refine cw_keep [3, 0] rfl (cw_unitD 1 (ι := Unit) (fun _ => []) (fun _ => fun w4 => Hp w [] M [] w4 ∧ Adv (mm [] M) (mm [] M) w w4 ∧ (.inl ()) = j2) ?_ ?_)
 ·refine cw_block (cw_keep [3, 0] rfl ?_)
  refine cw_loopM 1 (ι := Int) _ (fun x7 => [(3, vi x7)]) (fun x7 => x7) (fun x7 => fun w9 => Hp w [] M [] w9 ∧ Adv (mm [] M) (mm [] M) w w9 ∧ InK .i64 x7) 0 h3 ⟨hI, (Adv.refl _ _), (by decide)⟩ (sb2 rfl rfl) ?_
  rintro x7 w9 ⟨hI10, hA11, r8⟩ y12 h13 hR14
  refine cw_seq (cw_seq (cw_regF (s_mv rfl rfl (s_mv rfl rfl (s_len rfl (f_l_0.adv hI10.adv) Tryd.underlying22 rfl (s_lss rfl rfl rfl (Reg.nil (cw_cond rfl (fun hc15 => ?_) (fun hc15 => ?_)))))))))
  ·replace h13 := cdT hc15 h13
   refine cw_skip (cw_seq (cw_block (cw_seq (cw_regF (s_mv rfl rfl (s_mv rfl rfl ?_))))))
   obtain ⟨y16, hy16, h13⟩ := bnd h13
   refine p_ia rfl rfl (f_l_0.adv hI10.adv) hy16 Tryd.underlying22 Tryd.sizeOf61 rfl ?_
   intro b17 o18 cs19 hR20 hC21
   obtain ⟨rfl, r22, r23, r24, r25, r26, r27, r28, r29⟩ := ReportE_R.1 hR20
   refine s_lda rfl hC21.cells Tryd.isAgg61 rfl Tryd.sizeOf61 rfl ?_
   obtain ⟨z30, hz31, h13⟩ := bnd h13
   refine s_call rfl Tryd.call51 rfl ((C_ref03_Valid hI10.mlt r22 r23 r24 r25 r26 r27 r28 r29 hz31).mono ?_)
   rintro _ w32 ⟨rfl, e33⟩
   refine ⟨_, rfl, ?_⟩
   have hI34 := hI10.ext e33
   refine s_not rfl rfl (Reg.nil (cw_cond rfl (fun hc35 => ?_) (fun hc35 => ?_)))
   ·replace h13 := cdT hc35 h13
    refine cw_seq (cw_regF (s_as rfl rfl (Reg.nil (cw_ret ?_))))
    obtain rfl := Option.some.inj h13
    obtain rfl := hR14 _ rfl
    replace h := elimR h
    obtain rfl := Option.some.inj h
    refine fin1 Tryd.results18 rfl ?_
    exact ⟨rfl, (by decide), hI34.kp⟩
   replace h13 := cdF hc35 h13
   refine cw_skip (cw_regF (s_mv rfl rfl ?_))
   obtain ⟨n36, hn36, h13⟩ := bnd h13
   replace hn36 := chk_out hn36
   refine p_add rfl rfl rfl hn36 (s_as rfl rfl (Reg.nil ?_))
   obtain rfl := Option.some.inj h13
   refine ⟨rfl, n36, ⟨⟨hI34, hI34.adv, hn36.2⟩, rfl⟩, sb2 rfl rfl⟩
  replace h13 := cdF hc15 h13
  refine cw_exit (exB_same ?_)
  obtain rfl := Option.some.inj h13
  obtain rfl := hR14 _ rfl
  refine ⟨rfl, (), ⟨hI10, hI10.adv, rfl⟩, sb1 rfl⟩
 rintro _ w4 ⟨hI5, hA6, rfl⟩
 replace h := elimL h
 refine cw_seq (cw_seq (cw_regF (s_as rfl rfl (Reg.nil ?_))))
 obtain ⟨j37, h38, h⟩ := bnd h
 refine cw_keep [0, 4] rfl (cw_unitD 2 (ι := Unit) (fun _ => []) (fun _ => fun w39 => Hp w [] M [] w39 ∧ Adv (mm [] M) (mm [] M) w4 w39 ∧ (.inl ()) = j37) ?_ ?_)
 ·refine cw_block (cw_keep [4, 0] rfl ?_)
  refine cw_loopM 1 (ι := Int) _ (fun x42 => [(4, vi x42)]) (fun x42 => x42) (fun x42 => fun w44 => Hp w [] M [] w44 ∧ Adv (mm [] M) (mm [] M) w4 w44 ∧ InK .i64 x42) 0 h38 ⟨hI5, (Adv.refl _ _), (by decide)⟩ (sb2 rfl rfl) ?_
  rintro x42 w44 ⟨hI45, hA46, r43⟩ y47 h48 hR49
  refine cw_seq (cw_seq (cw_regF (s_mv rfl rfl (s_mv rfl rfl (s_len rfl (f_l_0.adv hI45.adv) Tryd.underlying22 rfl (s_lss rfl rfl rfl (Reg.nil (cw_cond rfl (fun hc50 => ?_) (fun hc50 => ?_)))))))))
  ·replace h48 := cdT hc50 h48
   refine cw_skip (cw_seq (cw_block (cw_seq (cw_regF (s_as rfl rfl (Reg.nil ?_))))))
   obtain ⟨j51, h52, h48⟩ := bnd h48
   refine cw_keep [5, 0, 4] rfl (cw_unitD 1 (ι := Unit) (fun _ => []) (fun _ => fun w53 => Hp w [] M [] w53 ∧ Adv (mm [] M) (mm [] M) w44 w53 ∧ (.inl ()) = j51) ?_ ?_)
   ·refine cw_block (cw_keep [5, 0, 4] rfl ?_)
    refine cw_loopM 1 (ι := Int) _ (fun x56 => [(5, vi x56)]) (fun x56 => x56) (fun x56 => fun w58 => Hp w [] M [] w58 ∧ Adv (mm [] M) (mm [] M) w44 w58 ∧ InK .i64 x56) 0 h52 ⟨hI45, (Adv.refl _ _), (by decide)⟩ (sb3 rfl rfl rfl) ?_
    rintro x56 w58 ⟨hI59, hA60, r57⟩ y61 h62 hR63
    refine cw_seq (cw_seq (cw_regF (s_mv rfl rfl (s_mv rfl rfl (s_lss rfl rfl rfl (Reg.nil (cw_cond rfl (fun hc64 => ?_) (fun hc64 => ?_))))))))
    ·replace h62 := cdT hc64 h62
     refine cw_skip (cw_seq (cw_block ?_))
     obtain ⟨j65, h66, h62⟩ := bnd h62
     refine cw_keep [0, 4, 5] rfl (cw_seqD 0 (ι := Bool) (fun x67 => [(53, Value.bool x67)]) (fun x67 => fun w68 => Hp w [] M [] w68 ∧ Adv (mm [] M) (mm [] M) w58 w68 ∧ x67 = j65) ?_ ?_)
     ·refine cw_regT fol (by kernel_rfl) ?_
      refine s_mv rfl rfl (s_mv rfl rfl ?_)
      obtain ⟨y71, hy71, h66⟩ := bnd h66
      refine p_ia rfl rfl (f_l_0.adv hI59.adv) hy71 Tryd.underlying22 Tryd.sizeOf61 rfl ?_
      intro b72 o73 cs74 hR75 hC76
      obtain ⟨rfl, r77, r78, r79, r80, r81, r82, r83, r84⟩ := ReportE_R.1 hR75
      refine s_fa rfl Tryd.underlying61 rfl Tryd.sizeOf3 rfl (s_ld rfl (hC76.cells.at 0 rfl) Tryd.isAgg3 rfl (s_mv rfl rfl (s_mv rfl rfl ?_)))
      obtain ⟨y85, hy85, h66⟩ := bnd h66
      refine p_ia rfl rfl (f_l_0.adv hI59.adv) hy85 Tryd.underlying22 Tryd.sizeOf61 rfl ?_
      intro b86 o87 cs88 hR89 hC90
      obtain ⟨rfl, r91, r92, r93, r94, r95, r96, r97, r98⟩ := ReportE_R.1 hR89
      refine s_fa rfl Tryd.underlying61 rfl Tryd.sizeOf3 rfl (s_ld rfl (hC90.cells.at 0 rfl) Tryd.isAgg3 rfl (s_eql rfl rfl rfl (s_mv rfl rfl (Reg.gsplit (t := 43) rfl (fun hg99 => ?_) (fun hg99 => ?_)))))
      ·replace h66 := cdT hg99 h66
       refine Reg.take rfl rfl (s_mv rfl rfl (Reg.take rfl rfl (s_mv rfl rfl (Reg.take rfl rfl ?_))))
       obtain ⟨y100, hy100, h66⟩ := bnd h66
       refine p_ia rfl rfl (f_l_0.adv hI59.adv) hy100 Tryd.underlying22 Tryd.sizeOf61 rfl ?_
       intro b101 o102 cs103 hR104 hC105
       obtain ⟨rfl, r106, r107, r108, r109, r110, r111, r112, r113⟩ := ReportE_R.1 hR104
       refine Reg.take rfl rfl (s_lda rfl hC105.cells Tryd.isAgg61 rfl Tryd.sizeOf61 rfl (Reg.take rfl rfl (s_mv rfl rfl (Reg.take rfl rfl (s_mv rfl rfl (Reg.take rfl rfl ?_))))))
       obtain ⟨y114, hy114, h66⟩ := bnd h66
       refine p_ia rfl rfl (f_l_0.adv hI59.adv) hy114 Tryd.underlying22 Tryd.sizeOf61 rfl ?_
       intro b115 o116 cs117 hR118 hC119
       obtain ⟨rfl, r120, r121, r122, r123, r124, r125, r126, r127⟩ := ReportE_R.1 hR118
       refine Reg.take rfl rfl (s_lda rfl hC119.cells Tryd.isAgg61 rfl Tryd.sizeOf61 rfl (Reg.take rfl rfl (s_neS (Report_eq y100 y114) Tryd.eqGuardType61 rfl rfl rfl ?_)))
       refine s_pkT rfl rfl rfl (Reg.nilq (fun w128 e129 => ?_))
       have hI130 := hI59.ext e129
       obtain rfl := Option.some.inj h66
       refine ⟨rfl, !decide (y100 = y114), ⟨hI130, (Adv.of_ext e129), rfl⟩, sb4 rfl rfl rfl rfl⟩
      replace h66 := cdF hg99 h66
      iterate 9 refine Reg.pass rfl rfl rfl rfl ?_
      refine s_pkF rfl rfl rfl (Reg.nilq (fun w131 e132 => ?_))
      have hI133 := hI59.ext e132
      obtain rfl := Option.some.inj h66
      refine ⟨rfl, false, ⟨hI133, (Adv.of_ext e132), rfl⟩, sb4 rfl rfl rfl rfl⟩
     rintro x67 w68 ⟨hI69, hA70, rfl⟩
     refine cw_cond rfl (fun hc134 => ?_) (fun hc134 => ?_)
     ·replace h62 := cdT hc134 h62
      refine cw_seq (cw_regF (s_as rfl rfl (Reg.nil (cw_ret ?_))))
      obtain rfl := Option.some.inj h62
      obtain rfl := hR63 _ rfl
      replace h48 := elimR h48
      obtain rfl := Option.some.inj h48
      obtain rfl := hR49 _ rfl
      replace h := elimR h
      obtain rfl := Option.some.inj h
      refine fin1 Tryd.results18 rfl ?_
      exact ⟨rfl, (by decide), hI69.kp⟩
     replace h62 := cdF hc134 h62
     refine cw_skip (cw_regF (s_mv rfl rfl ?_))
     obtain ⟨n135, hn135, h62⟩ := bnd h62
     replace hn135 := chk_out hn135
     refine p_add rfl rfl rfl hn135 (s_as rfl rfl (Reg.nil ?_))
     obtain rfl := Option.some.inj h62
     refine ⟨rfl, n135, ⟨⟨hI69, (hA60.trans hA70), hn135.2⟩, rfl⟩, sb3 rfl rfl rfl⟩
    replace h62 := cdF hc64 h62
    refine cw_exit (exB_same ?_)
    obtain rfl := Option.some.inj h62
    obtain rfl := hR63 _ rfl
    refine ⟨rfl, (), ⟨hI59, hA60, rfl⟩, sb2 rfl rfl⟩
   rintro _ w53 ⟨hI54, hA55, rfl⟩
   replace h48 := elimL h48
   refine cw_regF (s_mv rfl rfl ?_)
   obtain ⟨n136, hn136, h48⟩ := bnd h48
   replace hn136 := chk_out hn136
   refine p_add rfl rfl rfl hn136 (s_as rfl rfl (Reg.nil ?_))
   obtain rfl := Option.some.inj h48
   refine ⟨rfl, n136, ⟨⟨hI54, (hA46.trans hA55), hn136.2⟩, rfl⟩, sb2 rfl rfl⟩
  replace h48 := cdF hc50 h48
  refine cw_exit (exB_same ?_)
  obtain rfl := Option.some.inj h48
  obtain rfl := hR49 _ rfl
  refine ⟨rfl, (), ⟨hI45, hA46, rfl⟩, Sub.nil _⟩
 rintro _ w39 ⟨hI40, hA41, rfl⟩
 replace h := elimL h
 refine cw_seq (cw_regF (s_as rfl rfl (Reg.nil (cw_ret ?_))))
 obtain rfl := Option.some.inj h
 refine fin1 Tryd.results18 rfl ?_
 exact ⟨rfl, (by decide), hI40.kp⟩
noncomputable def P.ref03_At (l : (List Report)) (id : Int) : Option Int :=
  Option.bind (loopM (S := Int) (R := (Unit) ⊕ (Int)) (fun x1 => cond (decide (x1 < (l.length : Int))) (Option.bind (ixo l x1) fun y3 => cond (decide (y3.id = id)) (some (.inr (.inr x1))) (Option.bind (chk .i64 (x1 + 1)) fun n18 => some (.inl n18))) (some (.inr (.inl ())))) 0) fun j19 => Sum.elim (fun _ => some (-1)) (fun r20 => some r20)  j19
end Go.Proofs.YtepjkmoipjeghaaDoor
set_option maxRecDepth 20000
set_option maxHeartbeats 4000000
namespace Go.Proofs.YtepjkmoipjeghaaDoor
open Go Go.Sx Go.RowKit
variable [Trk]
noncomputable def P.ref03_Known (l : (List Report)) (known : Int) : Option (List Report) :=
  Option.bind (loopM (S := (List Report) × Int) (R := ((List Report))) (fun (x1, x2) => cond (decide (x2 < (l.length : Int))) (Option.bind (Option.bind (Option.bind (ixo l x2) fun y4 => cond (decide (y4.made ≤ known)) (Option.bind (ixo l x2) fun y19 => Option.bind (P.ref03_At x1 y19.id) fun z33 => some (decide (z33 < 0))) (some false)) fun x39 => Option.bind (cond x39 (Option.bind (ixo l x2) fun y41 => Option.bind (appo 64 x1 ([y41] : List Report)) fun l61 => some l61) (some x1)) fun x66 => some x66) fun x67 => Option.bind (chk .i64 (x2 + 1)) fun n68 => some (.inl (x67, n68))) (some (.inr x1))) ([], 0)) fun x69 => some x69
end Go.Proofs.YtepjkmoipjeghaaDoor
