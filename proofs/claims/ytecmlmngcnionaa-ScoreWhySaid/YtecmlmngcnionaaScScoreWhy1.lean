/-
  Part ScoreWhy 1 of the texts that the statement's proof stands on: what memory holds, how code is walked, what the functions reckon. In the order in which they build.
-/

import Derived.Test.YtecmlmngcnionaaSc9
set_option linter.unusedVariables false
namespace Go.Proofs.Ytecmlmngcnionaa
open Go Go.Sx
namespace S
/-- The values of some traits put into their places. -/
def putAll : List Int → List Nat → List Int → List Int
  | x, t :: ts, v :: vs => putAll (x.set t v) ts vs
  | x, _, _ => x
theorem putAll_len : ∀ (x : List Int) (ts : List Nat) (vs : List Int), (putAll x ts vs).length = x.length
  | x, t :: ts, v :: vs => by rw [putAll, putAll_len, List.length_set]
  | x, [], _ => by cases ‹List Int› <;> rfl
  | x, _ :: _, [] => rfl
theorem find_flat {A B : Type} (g : A → List B) (p : B → Bool) : ∀ (l : List A), (l.flatMap g).find? p = l.findSome? fun a => (g a).find? p
  | [] => rfl
  | a :: l => by
    rw [List.flatMap_cons, List.find?_append, List.findSome?_cons, find_flat g p l]
    cases (g a).find? p <;> rfl
theorem runL_find {T : Type} (f : T → Int → Bool × T) (c : T → Int → Option T) (h : ∀ s v, f s v = match c s v with | none => (false, s) | some r => (true, r)) : ∀ (l : List Int) (s : T), runL f s l = match l.findSome? (c s) with | none => (false, s) | some r => (true, r)
  | [], _ => rfl
  | v :: l, s => by
    unfold runL
    rw [h s v, List.findSome?_cons]
    cases c s v with
    | none => exact runL_find f c h l s
    | some r => rfl
theorem onS_find {T : Type} (p : List Int → Bool) (g : T → List Int → T) (lists : Nat → Option (List Int)) (Ls : Nat → List Int) : ∀ (k t : Nat) (x : List Int) (s : T) (ts : List Nat), ts.Pairwise (· < ·) → (∀ j ∈ ts, t ≤ j ∧ j < t + k) → (∀ j, t ≤ j → j < t + k → lists j = if j ∈ ts then some (Ls j) else none) →
    onS (fun s y => if p y = true then (true, g s y) else (false, s)) lists k t x s = match (prodL (ts.map Ls)).find? fun v => p (putAll x ts v) with | none => (false, s) | some v => (true, g s (putAll x ts v))
  | 0, t, x, s, ts, _, hin, _ => by
    have : ts = [] := List.eq_nil_iff_forall_not_mem.2 fun j hj => by have := hin j hj; omega
    subst this
    simp only [onS, List.map_nil, prodL, List.find?_cons, putAll, List.find?_nil]
    cases p x <;> rfl
  | k + 1, t, x, s, ts, hs, hin, hl => by
    have h0 := hl t (Nat.le_refl _) (by omega)
    unfold onS
    by_cases ht : t ∈ ts
    · rw [if_pos ht] at h0
      rw [h0]
      simp only
      cases ts with
      | nil => cases ht
      | cons a ts =>
        have hp := List.pairwise_cons.1 hs
        have ha : a = t := by
          rcases List.mem_cons.1 ht with h | h
          · exact h.symm
          · have h1 := hp.1 t h
            have h2 := (hin a (List.mem_cons_self ..)).1
            omega
        subst ha
        have ih : ∀ (s : T) (v : Int), onS (fun s y => if p y = true then (true, g s y) else (false, s)) lists k (a + 1) (x.set a v) s = match ((prodL (ts.map Ls)).find? fun w => p (putAll (x.set a v) ts w)).map fun w => g s (putAll (x.set a v) ts w) with | none => (false, s) | some r => (true, r) := fun s v => by
          rw [onS_find p g lists Ls k (a + 1) (x.set a v) s ts hp.2 (fun j hj => ⟨hp.1 j hj, by have := (hin j (List.mem_cons_of_mem _ hj)).2; omega⟩) (fun j h1 h2 => by
            rw [hl j (by omega) (by omega)]
            have : j ≠ a := by omega
            simp [this])]
          cases (prodL (ts.map Ls)).find? fun w => p (putAll (x.set a v) ts w) <;> rfl
        rw [runL_find _ (fun s v => ((prodL (ts.map Ls)).find? fun w => p (putAll (x.set a v) ts w)).map fun w => g s (putAll (x.set a v) ts w)) ih]
        simp only [List.map_cons, prodL]
        rw [find_flat]
        have key : ∀ (l : List Int), (l.findSome? fun v => ((prodL (ts.map Ls)).find? fun w => p (putAll (x.set a v) ts w)).map fun w => g s (putAll (x.set a v) ts w)) = (l.findSome? fun v => ((prodL (ts.map Ls)).map (v :: ·)).find? fun v => p (putAll x (a :: ts) v)).map fun v => g s (putAll x (a :: ts) v) := by
          intro l
          induction l with
          | nil => rfl
          | cons v l ihl =>
            rw [List.findSome?_cons, List.findSome?_cons, ihl]
            have e : (((prodL (ts.map Ls)).map (v :: ·)).find? fun v => p (putAll x (a :: ts) v)) = ((prodL (ts.map Ls)).find? fun w => p (putAll (x.set a v) ts w)).map (v :: ·) := by
              rw [List.find?_map]; rfl
            rw [e]
            cases (prodL (ts.map Ls)).find? fun w => p (putAll (x.set a v) ts w) <;> rfl
        rw [key]
        cases (Ls a).findSome? fun v => ((prodL (ts.map Ls)).map (v :: ·)).find? fun v => p (putAll x (a :: ts) v) <;> rfl
    · rw [if_neg ht] at h0
      rw [h0]
      simp only
      exact onS_find p g lists Ls k (t + 1) x s ts hs (fun j hj => by
        have h1 := hin j hj
        have : j ≠ t := fun e => ht (e ▸ hj)
        omega) fun j h1 h2 => hl j (by omega) (by omega)
end S
end Go.Proofs.Ytecmlmngcnionaa
namespace Go.Proofs.Ytecmlmngcnionaa
open Go Go.Sx
namespace S
/-- The traits of which f is so. -/
def tsOf (n : Nat) (f : Nat → Bool) : List Nat := (List.range n).filter f
def lsOf (n : Nat) (f : Nat → Bool) : List Int := (tsOf n f).map fun (t : Nat) => (t : Int)
theorem tsOf_mem {n : Nat} {f : Nat → Bool} {t : Nat} : t ∈ tsOf n f ↔ t < n ∧ f t = true := by simp [tsOf]
theorem tsOf_asc (n : Nat) (f : Nat → Bool) : (tsOf n f).Pairwise (· < ·) := List.pairwise_lt_range.filter _
theorem lsOf_mem {n : Nat} {f : Nat → Bool} {t : Nat} : (t : Int) ∈ lsOf n f ↔ t < n ∧ f t = true := by
  unfold lsOf
  rw [List.mem_map]
  constructor
  · rintro ⟨a, ha, e⟩
    have : a = t := by omega
    subst this
    exact tsOf_mem.1 ha
  · intro h; exact ⟨t, tsOf_mem.2 h, rfl⟩
def code5 (a b c d e : Bool) : Nat := (if a then 1 else 0) + (if b then 2 else 0) + (if c then 4 else 0) + (if d then 8 else 0) + (if e then 16 else 0)
theorem code_bit : ∀ a b c d e : Bool, bitB (code5 a b c d e) 0 = a ∧ bitB (code5 a b c d e) 1 = b ∧ bitB (code5 a b c d e) 2 = c ∧ bitB (code5 a b c d e) 3 = d ∧ bitB (code5 a b c d e) 4 = e := by decide +kernel
theorem code_lt : ∀ a b c d e : Bool, code5 a b c d e < 32 ∧ (e = false → code5 a b c d e < 16 ∧ (d = false → code5 a b c d e < 8 ∧ (c = false → code5 a b c d e < 4 ∧ (b = false → code5 a b c d e < 2 ∧ (a = false → code5 a b c d e < 1))))) := by decide +kernel
theorem lsOf_all {n : Nat} (hn : n ≤ 5) (f : Nat → Bool) (h : lsOf n f ≠ []) : lsOf n f ∈ setsAll n := by
  let g : Nat → Bool := fun j => f j && decide (j < n)
  have hb := code_bit (g 0) (g 1) (g 2) (g 3) (g 4)
  have hl := code_lt (g 0) (g 1) (g 2) (g 3) (g 4)
  have hg : ∀ j, ¬ j < n → g j = false := fun j hj => by simp [g, hj]
  have hlt : code5 (g 0) (g 1) (g 2) (g 3) (g 4) < 2 ^ n := by
    have : n = 0 ∨ n = 1 ∨ n = 2 ∨ n = 3 ∨ n = 4 ∨ n = 5 := by omega
    rcases this with e | e | e | e | e | e
    · rw [e]; exact ((((hl.2 (hg 4 (by omega))).2 (hg 3 (by omega))).2 (hg 2 (by omega))).2 (hg 1 (by omega))).2 (hg 0 (by omega))
    · rw [e]; exact ((((hl.2 (hg 4 (by omega))).2 (hg 3 (by omega))).2 (hg 2 (by omega))).2 (hg 1 (by omega))).1
    · rw [e]; exact (((hl.2 (hg 4 (by omega))).2 (hg 3 (by omega))).2 (hg 2 (by omega))).1
    · rw [e]; exact ((hl.2 (hg 4 (by omega))).2 (hg 3 (by omega))).1
    · rw [e]; exact (hl.2 (hg 4 (by omega))).1
    · rw [e]; exact hl.1
  have hset : setOf n (code5 (g 0) (g 1) (g 2) (g 3) (g 4)) = lsOf n f := by
    unfold setOf lsOf tsOf
    congr 1
    refine List.filter_congr fun j hj => ?_
    have hjn := List.mem_range.1 hj
    have hgj : g j = f j := by simp [g, hjn]
    rw [← hgj]
    have : j = 0 ∨ j = 1 ∨ j = 2 ∨ j = 3 ∨ j = 4 := by omega
    rcases this with rfl | rfl | rfl | rfl | rfl
    · exact hb.1
    · exact hb.2.1
    · exact hb.2.2.1
    · exact hb.2.2.2.1
    · exact hb.2.2.2.2
  unfold setsAll
  refine List.mem_filter.2 ⟨List.mem_map.2 ⟨_, List.mem_range.2 hlt, hset⟩, ?_⟩
  rw [decide_eq_true_eq]
  exact List.length_pos_iff.2 h
theorem lsOf_sets {n : Nat} (hn : n ≤ 5) (f : Nat → Bool) (h : lsOf n f ≠ []) : lsOf n f ∈ setsS n := by
  unfold setsS
  rw [List.mem_mergeSort]
  exact lsOf_all hn f h
theorem sets_form {n : Nat} {l : List Int} (h : l ∈ setsS n) : ∃ f, l = lsOf n f := by
  unfold setsS at h
  rw [List.mem_mergeSort] at h
  obtain ⟨b, _, rfl⟩ := List.mem_map.1 (List.mem_filter.1 h).1
  exact ⟨bitB b, rfl⟩
theorem sets_asc (n : Nat) : (setsS n).Pairwise fun a b => setc a b ≤ 0 := by
  have := List.pairwise_mergeSort (le := fun a b => decide (setc a b ≤ 0)) (fun a b c h1 h2 => by
    rw [decide_eq_true_eq] at *
    exact (setc_trans a b c h1 h2).1) setc_total (setsAll n)
  exact this.imp fun h => by simpa using h
/-- The first of a list in order of which p is so is not after any other one. -/
theorem find_first {α : Type} {R : α → α → Prop} {p : α → Bool} {l : List α} (hl : l.Pairwise R) {a b : α} (h : l.find? p = some a) (hb : b ∈ l) (hp : p b = true) : a = b ∨ R a b := by
  obtain ⟨_, ps, qs, e, h2⟩ := List.find?_eq_some_iff_append.1 h
  rw [e] at hb hl
  rcases List.mem_append.1 hb with h3 | h3
  · have := h2 b h3; rw [hp] at this; cases this
  · rcases List.mem_cons.1 h3 with h3 | h3
    · exact .inl h3.symm
    · exact .inr ((List.pairwise_cons.1 (List.pairwise_append.1 hl).2.1).1 b h3)
theorem lexc_le : ∀ {a b : List Int}, a.length = b.length → (∀ (j : Nat) x y, a[j]? = some x → b[j]? = some y → x ≤ y) → lexc a b ≤ 0
  | [], [], _, _ => by simp [lexc]
  | x :: a, y :: b, hl, h => by
    have h0 := h 0 x y rfl rfl
    simp only [lexc]
    by_cases h1 : x < y
    · simp [h1]
    · have : ¬ y < x := by omega
      simp only [h1, this, if_false]
      exact lexc_le (by simpa using hl) fun j x y hx hy => h (j + 1) x y (by simpa using hx) (by simpa using hy)
  | [], _ :: _, h, _ => by simp at h
  | _ :: _, [], h, _ => by simp at h
theorem lexc_diff : ∀ {i : Nat} {a b : List Int} {x y : Int}, (∀ j < i, a[j]? = b[j]?) → a[i]? = some x → b[i]? = some y → x ≠ y → lexc a b ≤ 0 → x < y
  | _, [], _, _, _, _, h, _, _, _ => by simp at h
  | _, _ :: _, [], _, _, _, _, h, _, _ => by simp at h
  | 0, a :: r, b :: t, x, y, _, hx, hy, hne, h => by
    simp at hx hy
    subst hx hy
    simp only [lexc] at h
    by_cases h1 : a < b
    · exact h1
    · have : b < a := by omega
      simp [h1, this] at h
  | i + 1, a :: r, b :: t, x, y, hp, hx, hy, hne, h => by
    have h0 := hp 0 (by omega)
    simp at h0
    subst h0
    simp only [lexc, Int.lt_irrefl, if_false] at h
    exact lexc_diff (i := i) (fun j hj => by simpa using hp (j + 1) (by omega)) (by simpa using hx) (by simpa using hy) hne h
theorem prodL_asc : ∀ {ls : List (List Int)}, (∀ l ∈ ls, l.Pairwise (· < ·)) → (prodL ls).Pairwise fun a b => lexc a b ≤ 0
  | [], _ => by simp [prodL]
  | l :: ls, h => by
    have ih := prodL_asc (ls := ls) fun l hl => h l (List.mem_cons_of_mem _ hl)
    simp only [prodL]
    rw [List.pairwise_flatMap]
    refine ⟨fun v _ => ?_, (h l (List.mem_cons_self ..)).imp fun {v w} hvw a ha b hb => ?_⟩
    · rw [List.pairwise_map]
      exact ih.imp fun {a b} hab => by simpa only [lexc, Int.lt_irrefl, if_false] using hab
    · obtain ⟨a', _, rfl⟩ := List.mem_map.1 ha
      obtain ⟨b', _, rfl⟩ := List.mem_map.1 hb
      simp [lexc, hvw]
theorem putAll_not : ∀ {ts : List Nat} {x v : List Int} {t : Nat}, t ∉ ts → (putAll x ts v)[t]? = x[t]?
  | [], x, v, t, _ => by cases v <;> rfl
  | a :: ts, x, [], t, _ => rfl
  | a :: ts, x, b :: v, t, h => by
    rw [putAll, putAll_not fun h' => h (List.mem_cons_of_mem _ h'), List.getElem?_set_ne fun e => h (by rw [← e]; exact List.mem_cons_self ..)]
theorem putAll_at : ∀ {ts : List Nat} {x v : List Int}, ts.Pairwise (· < ·) → v.length = ts.length → (∀ t ∈ ts, t < x.length) → ∀ {i t : Nat}, ts[i]? = some t → (putAll x ts v)[t]? = v[i]?
  | [], _, _, _, _, _, i, t, h => by simp at h
  | a :: ts, x, [], _, hl, _, i, t, h => by simp at hl
  | a :: ts, x, b :: v, hs, hl, hx, 0, t, h => by
    have hs := List.pairwise_cons.1 hs
    simp at h
    subst h
    rw [putAll, putAll_not fun h' => by have := hs.1 _ h'; omega, List.getElem?_set_self (hx _ (List.mem_cons_self ..))]; rfl
  | a :: ts, x, b :: v, hs, hl, hx, i + 1, t, h => by
    have hs := List.pairwise_cons.1 hs
    rw [putAll, putAll_at hs.2 (by simpa using hl) (fun t ht => by rw [List.length_set]; exact hx t (List.mem_cons_of_mem _ ht)) (i := i) (by simpa using h)]
    simp
/-- Other values of the traits of which f is so. -/
def Choice (x : List Int) (f : Nat → Bool) (y : List Int) : Prop := y.length = x.length ∧ ∀ (j : Nat) (a b : Int), x[j]? = some a → y[j]? = some b → if f j then 0 ≤ b ∧ b ≤ 1000000 else b = a
theorem steps_asc (m : Model) (t : Nat) (s : Span) : (stepsS m t s).Pairwise (· < ·) := (stepsS_good m t s).1
section
variable {m : Model} {x : List Int} {f : Nat → Bool}
def pR (m : Model) (x y : List Int) : Bool := !(enB m (score m y) == enB m (score m x))
def Lw (m : Model) (t : Nat) : List Int := stepsS m t whole
theorem ts_get {n i t : Nat} (h : (tsOf n f)[i]? = some t) : t < n ∧ f t = true := tsOf_mem.1 (List.mem_of_getElem? h)
theorem choice_of {v : List Int} (hv : v ∈ prodL ((tsOf x.length f).map (Lw m))) : Choice x f (putAll x (tsOf x.length f) v) := by
  obtain ⟨h1, h2⟩ := mem_prodL.1 hv
  rw [List.length_map] at h1
  refine ⟨putAll_len .., fun j a b ha hb => ?_⟩
  have hj := get_lt ha
  by_cases e : f j = true
  · rw [if_pos e]
    obtain ⟨i, hi⟩ := List.getElem?_of_mem (tsOf_mem.2 ⟨hj, e⟩)
    rw [putAll_at (tsOf_asc ..) h1 (fun t ht => (tsOf_mem.1 ht).1) hi] at hb
    have := h2 i b (Lw m j) hb (by rw [List.getElem?_map, hi]; rfl)
    have := steps_bd (by decide) this
    exact this
  · rw [if_neg e]
    rw [putAll_not fun h => e (tsOf_mem.1 h).2, ha] at hb
    cases hb; rfl
/-- The steps on which other values stand. -/
theorem choice_step (hm : modelOk m = true) (hl : (x.length : Int) = m.traits) {y : List Int} (hy : Choice x f y) :
    ∃ u ∈ prodL ((tsOf x.length f).map (Lw m)), score m (putAll x (tsOf x.length f) u) = score m y ∧ ∀ (i t : Nat) a b, (tsOf x.length f)[i]? = some t → u[i]? = some a → y[t]? = some b → a ≤ b := by
  obtain ⟨u, h1, h2⟩ := build (P := fun i a => ∀ t b, (tsOf x.length f)[i]? = some t → y[t]? = some b → a ∈ Lw m t ∧ a ≤ b ∧ Alike m t a b) (tsOf x.length f).length fun i hi => by
    have ht : (tsOf x.length f)[i]? = some (tsOf x.length f)[i] := List.getElem?_eq_getElem hi
    generalize (tsOf x.length f)[i] = t at ht
    obtain ⟨q1, q2⟩ := ts_get ht
    have hxa : x[t]? = some x[t] := List.getElem?_eq_getElem q1
    have hyb : y[t]? = some (y[t]'(by have := hy.1; omega)) := List.getElem?_eq_getElem (by have := hy.1; omega)
    have := hy.2 t _ _ hxa hyb
    rw [if_pos q2] at this
    obtain ⟨v, hv⟩ := step_of m t (s := whole) (by decide) this.1 this.2
    exact ⟨v, fun t' b ht' hb => by rw [ht] at ht'; cases ht'; rw [hyb] at hb; cases hb; exact hv⟩
  have hget : ∀ (i t : Nat) a, (tsOf x.length f)[i]? = some t → u[i]? = some a → ∃ b, y[t]? = some b ∧ a ∈ Lw m t ∧ a ≤ b ∧ Alike m t a b := fun i t a ht ha => by
    have q := (ts_get ht).1
    have hyb : y[t]? = some (y[t]'(by have := hy.1; omega)) := List.getElem?_eq_getElem (by have := hy.1; omega)
    exact ⟨_, hyb, h2 i a ha t _ ht hyb⟩
  refine ⟨u, mem_prodL.2 ⟨by rw [List.length_map, h1], fun i a l ha hl' => ?_⟩, ?_, fun i t a b ht ha hb => ?_⟩
  · rw [List.getElem?_map] at hl'
    cases ht : (tsOf x.length f)[i]? with
    | none => rw [ht] at hl'; cases hl'
    | some t =>
      rw [ht] at hl'; cases hl'
      obtain ⟨b, _, h3, _⟩ := hget i t a ht ha
      exact h3
  · refine score_alike hm (by rw [putAll_len]; exact hl) (by rw [putAll_len]; exact hy.1) fun t a b ha hb => ?_
    have hj := get_lt hb
    have htl : t < x.length := by have := hy.1; omega
    by_cases e : f t = true
    · obtain ⟨i, hi⟩ := List.getElem?_of_mem (tsOf_mem.2 ⟨htl, e⟩)
      rw [putAll_at (tsOf_asc ..) h1 (fun t ht => (tsOf_mem.1 ht).1) hi] at ha
      obtain ⟨b', hb', _, _, h5⟩ := hget i t a hi ha
      rw [hb] at hb'; cases hb'; exact h5
    · rw [putAll_not fun h => e (tsOf_mem.1 h).2] at ha
      have := hy.2 t a b ha hb
      rw [if_neg e] at this
      rw [this]; exact Alike.refl ..
  · obtain ⟨b', hb', _, h4, _⟩ := hget i t a ht ha
    rw [hb] at hb'; cases hb'; exact h4
theorem picks_put {ts : List Nat} {v : List Int} (hs : ts.Pairwise (· < ·)) (hl : v.length = ts.length) (hx : ∀ t ∈ ts, t < x.length) : picksOf (ts.map fun (t : Nat) => (t : Int)) (putAll x ts v) = v := by
  unfold picksOf
  refine List.ext_getElem? fun i => ?_
  rw [List.getElem?_map, List.getElem?_map]
  cases ht : ts[i]? with
  | none =>
    have := List.getElem?_eq_none_iff.1 ht
    rw [List.getElem?_eq_none (by omega)]; rfl
  | some t =>
    have hi := get_lt ht
    have hv : v[i]? = some (v[i]'(by omega)) := List.getElem?_eq_getElem (by omega)
    simp only [Option.map_some, Int.toNat_natCast]
    rw [putAll_at hs hl hx ht, hv]; rfl
theorem tryR_is : tryR m x (lsOf x.length f) = match (prodL ((tsOf x.length f).map (Lw m))).find? fun v => pR m x (putAll x (tsOf x.length f) v) with | none => (false, []) | some v => (true, v) := by
  have e : soR m (enB m (score m x)) (lsOf x.length f) = fun s y => if pR m x y = true then (true, s ++ picksOf (lsOf x.length f) y) else (false, s) := by
    funext s y
    unfold soR pR
    cases enB m (score m y) == enB m (score m x) <;> rfl
  unfold tryR
  rw [e, onS_find (pR m x) (fun s y => s ++ picksOf (lsOf x.length f) y) (listsR m (lsOf x.length f)) (Lw m) x.length 0 x [] (tsOf x.length f) (tsOf_asc ..) (fun j hj => by have := (tsOf_mem.1 hj).1; omega) (fun j _ hj => by
    unfold listsR
    by_cases h : j ∈ tsOf x.length f
    · rw [if_pos h, if_pos (lsOf_mem.2 (tsOf_mem.1 h))]; rfl
    · rw [if_neg h, if_neg fun h' => h (tsOf_mem.2 (lsOf_mem.1 h'))])]
  cases hf : (prodL ((tsOf x.length f).map (Lw m))).find? fun v => pR m x (putAll x (tsOf x.length f) v) with
  | none => rfl
  | some v =>
    have hv := (mem_prodL.1 (List.mem_of_find?_eq_some hf)).1
    rw [List.length_map] at hv
    simp only [List.nil_append]
    unfold lsOf
    rw [picks_put (tsOf_asc ..) hv fun t ht => (tsOf_mem.1 ht).1]
/-- A set for which nothing is found: with whatever values the answer stays. -/
theorem tryR_none (hm : modelOk m = true) (hl : (x.length : Int) = m.traits) (h : (tryR m x (lsOf x.length f)).1 = false) {y : List Int} (hy : Choice x f y) : enB m (score m y) = enB m (score m x) := by
  rw [tryR_is] at h
  cases hf : (prodL ((tsOf x.length f).map (Lw m))).find? fun v => pR m x (putAll x (tsOf x.length f) v) with
  | some v => rw [hf] at h; cases h
  | none =>
    obtain ⟨u, hu, h1, _⟩ := choice_step hm hl hy
    have := List.find?_eq_none.1 hf u hu
    unfold pR at this
    rw [h1] at this
    simpa using this
theorem tryR_some (hm : modelOk m = true) (hl : (x.length : Int) = m.traits) (h : (tryR m x (lsOf x.length f)).1 = true) :
    (tryR m x (lsOf x.length f)).2.length = (tsOf x.length f).length ∧ Choice x f (putAll x (tsOf x.length f) (tryR m x (lsOf x.length f)).2) ∧ enB m (score m (putAll x (tsOf x.length f) (tryR m x (lsOf x.length f)).2)) ≠ enB m (score m x) ∧
      (∀ (i : Nat) v, (tryR m x (lsOf x.length f)).2[i]? = some v → 0 ≤ v ∧ v ≤ 1000000) ∧
      ∀ y, Choice x f y → enB m (score m y) ≠ enB m (score m x) → ∀ w : List Int, w.length = (tsOf x.length f).length → (∀ (i t : Nat), (tsOf x.length f)[i]? = some t → w[i]? = y[t]?) → lexc (tryR m x (lsOf x.length f)).2 w ≤ 0 := by
  rw [tryR_is] at h ⊢
  cases hf : (prodL ((tsOf x.length f).map (Lw m))).find? fun v => pR m x (putAll x (tsOf x.length f) v) with
  | none => rw [hf] at h; cases h
  | some v =>
    simp only
    have hv := List.mem_of_find?_eq_some hf
    have hp := List.find?_some hf
    obtain ⟨h1, h2⟩ := mem_prodL.1 hv
    rw [List.length_map] at h1
    refine ⟨h1, choice_of hv, by unfold pR at hp; simpa using hp, fun i a ha => ?_, fun y hy hne w hw hwy => ?_⟩
    · have hi := get_lt ha
      have ht : (tsOf x.length f)[i]? = some ((tsOf x.length f)[i]'(by omega)) := List.getElem?_eq_getElem (by omega)
      exact steps_bd (by decide) (h2 i a (Lw m _) ha (by rw [List.getElem?_map, ht]; rfl))
    · obtain ⟨u, hu, h3, h4⟩ := choice_step hm hl hy
      have hpu : pR m x (putAll x (tsOf x.length f) u) = true := by unfold pR; rw [h3]; simpa using hne
      have hul := (mem_prodL.1 hu).1
      rw [List.length_map] at hul
      have huw : lexc u w ≤ 0 := lexc_le (by omega) fun j a b ha hb => by
        have hj := get_lt ha
        have ht : (tsOf x.length f)[j]? = some ((tsOf x.length f)[j]'(by omega)) := List.getElem?_eq_getElem (by omega)
        exact h4 j _ a b ht ha (by rw [← hwy j _ ht]; exact hb)
      rcases find_first (prodL_asc (ls := (tsOf x.length f).map (Lw m)) fun l hl => by obtain ⟨t, _, rfl⟩ := List.mem_map.1 hl; exact steps_asc ..) hf hu hpu with e | e
      · rw [e]; exact huw
      · exact (lexc_trans _ _ _ e huw).1
end
end S
end Go.Proofs.Ytecmlmngcnionaa
set_option maxRecDepth 20000
namespace Go.Proofs.Ytecmlmngcnionaa
open Go Go.Sx Go.RowKit
noncomputable def P.law06_ScoreWhy (m : Model) (x : (List Int)) (set : Int) (by_ : (List Int)) : Option Bool :=
 Option.bind (P.law06_alive ) fun z7 => cond (!z7) (some false) (Option.bind (P.law06_ready (Model.mk m.traits m.cards m.trees m.need) x) fun z13 => cond (!z13) (some z7) (Option.bind (P.score_Score (Model.mk m.traits m.cards m.trees m.need) x) fun (z19, z20, z21) => Option.bind (P.score_Reasons (Model.mk m.traits m.cards m.trees m.need) x) fun (z28, z29, z30) => cond (!decide (z21 = 0)) (some false) (Option.bind (appo 8 ([] : List Int) x) fun l45 => Option.bind (loopM (S := (List Int) × Int × (List Int)) (R := ((List Int) × (List Int))) (fun (x50, x51, x52) => cond (decide (x51 < (l45.length : Int))) (Option.bind (Option.bind (shrO set x51 IntKind.u8.bits) fun n54 => Option.bind (cond (decide (andI .u8 n54 1 = 1)) (Option.bind (appo 8 x50 ([x51] : List Int)) fun l62 => Option.bind (P.ref06_Steps (Model.mk m.traits m.cards m.trees m.need) x51) fun z67 => Option.bind (chk .i64 (2 * x51)) fun n74 => Option.bind (P.law06_at by_ n74) fun z75 => Option.bind (chk .i64 z75) fun n81 => Option.bind (remO n81 (z67.length : Int)) fun n82 => Option.bind (ixo z67 n82) fun y83 => Option.bind (ixo x52 x51) fun y90 => Option.bind (seto x52 x51 y83) fun l97 => Option.bind (chk .i64 (2 * x51)) fun n101 => Option.bind (chk .i64 (n101 + 1)) fun n102 => Option.bind (P.law06_at by_ n102) fun z103 => Option.bind (remO z103 2) fun n109 => Option.bind (cond (decide (n109 = 0)) (Option.bind (chk .i64 (2 * x51)) fun n111 => Option.bind (P.law06_at by_ n111) fun z112 => Option.bind (chk .i64 z112) fun n118 => Option.bind (remO n118 1000001) fun n119 => Option.bind (ixo l97 x51) fun y120 => Option.bind (seto l97 x51 n119) fun l127 => some l127) (some l97)) fun x131 => some (l62, x131)) (some (x50, x52))) fun (x132, x133) => some (x132, x133)) fun (x134, x135) => Option.bind (chk .i64 (x51 + 1)) fun n136 => some (.inl (x134, n136, x135))) (some (.inr (x50, x52)))) ([], 0, l45)) fun (x137, x138) => Option.bind (P.score_Score (Model.mk m.traits m.cards m.trees m.need) x138) fun (z139, z140, z141) => cond (!decide (z141 = 0)) (some false) (cond (!decide (z30 = 0)) (Option.bind (cond z7 (cond (decide (z30 = 6)) (cond (decide ((z28.length : Int) = 0)) (cond (decide ((z29.length : Int) = 0)) (some (z140 == z20)) (some false)) (some false)) (some false)) (some false)) fun x154 => some x154) (Option.bind (cond (decide ((z28.length : Int) = 0)) (some true) (some (!decide ((z29.length : Int) = (z28.length : Int))))) fun x156 => cond x156 (some false) (Option.bind (appo 8 ([] : List Int) x) fun l162 => Option.bind (loopM (S := Int × (List Int)) (R := ((List Int)) ⊕ (Bool)) (fun (x167, x168) => cond (decide (x167 < (z28.length : Int))) (Option.bind (ixo z28 x167) fun y170 => Option.bind (cond (decide (y170 < 0)) (some true) (cond (decide ((x.length : Int) ≤ y170)) (some true) (cond (decide (0 < x167)) (Option.bind (chk .i64 (x167 - 1)) fun n186 => Option.bind (ixo z28 n186) fun y187 => cond (decide (y170 ≤ y187)) (some true) (Option.bind (ixo z29 x167) fun y198 => cond (decide (y198 < 0)) (some true) (Option.bind (ixo z29 x167) fun y209 => cond (decide (1000000 < y209)) (some true) (Option.bind (ixo z29 x167) fun y220 => Option.bind (ixo x y170) fun y227 => some (decide (y220 = y227)))))) (Option.bind (ixo z29 x167) fun y237 => cond (decide (y237 < 0)) (some true) (Option.bind (ixo z29 x167) fun y248 => cond (decide (1000000 < y248)) (some true) (Option.bind (ixo z29 x167) fun y259 => Option.bind (ixo x y170) fun y266 => some (decide (y259 = y266)))))))) fun x276 => cond x276 (some (.inr (.inr false))) (Option.bind (ixo z29 x167) fun y278 => Option.bind (ixo x168 y170) fun y285 => Option.bind (seto x168 y170 y278) fun l292 => Option.bind (chk .i64 (x167 + 1)) fun n296 => some (.inl (n296, l292)))) (some (.inr (.inl x168)))) (0, l162)) fun j297 => Sum.elim (fun x298 => Option.bind (P.score_Score (Model.mk m.traits m.cards m.trees m.need) x298) fun (z299, z300, z301) => Option.bind (cond (!decide (z301 = 0)) (some true) (some (z300 == z20))) fun x309 => cond x309 (some false) (Option.bind (cond (z140 == z20) (some true) (some (decide ((z28.length : Int) < (x137.length : Int))))) fun x312 => cond x312 (some z7) (cond (decide ((x137.length : Int) < (z28.length : Int))) (some false) (Option.bind (loopM (S := Int) (R := (Unit) ⊕ (Bool)) (fun x315 => cond (decide (x315 < (x137.length : Int))) (Option.bind (ixo x137 x315) fun y317 => Option.bind (ixo z28 x315) fun y324 => cond (!decide (y317 = y324)) (Option.bind (cond z7 (Option.bind (ixo z28 x315) fun y336 => Option.bind (ixo x137 x315) fun y343 => some (decide (y336 < y343))) (some false)) fun x356 => some (.inr (.inr x356))) (Option.bind (chk .i64 (x315 + 1)) fun n357 => some (.inl n357))) (some (.inr (.inl ())))) 0) fun j358 => Sum.elim (fun _ => Option.bind (loopM (S := Int) (R := (Unit) ⊕ (Bool)) (fun x359 => cond (decide (x359 < (z28.length : Int))) (Option.bind (ixo z28 x359) fun y361 => Option.bind (ixo x138 y361) fun y368 => Option.bind (ixo z29 x359) fun y375 => cond (!decide (y368 = y375)) (Option.bind (cond z7 (Option.bind (ixo z29 x359) fun y387 => Option.bind (ixo x138 y361) fun y394 => some (decide (y387 < y394))) (some false)) fun x407 => some (.inr (.inr x407))) (Option.bind (chk .i64 (x359 + 1)) fun n408 => some (.inl n408))) (some (.inr (.inl ())))) 0) fun j409 => Sum.elim (fun _ => some z7) (fun r410 => some r410)  j409) (fun r411 => some r411)  j358)))) (fun r412 => some r412)  j297))))))
theorem C_law06_ScoreWhy {M : List Nat} {w : World} (hM : MLt M w) {m : Model} {v_m_1 : Value} {v_m_2 : Value} (f_m_0 : InK .i64 m.traits) (f_m_1 : RdS CardE M w v_m_1 m.cards) (f_m_2 : RdS TreeE M w v_m_2 m.trees) (f_m_3 : InK .i64 m.need) {x : (List Int)} {v_x_0 : Value} (f_x_0 : RdS (intE .i64) M w v_x_0 x) {set : Int} (f_set_0 : InK IntKind.u8 set) {by_ : (List Int)} {v_by__0 : Value} (f_by__0 : RdS (intE .u32) M w v_by__0 by_) {r0 : Bool} (h : P.law06_ScoreWhy m x set by_ = some r0) :
  Calls Try.prog 7 (List.toArray [Value.agg (List.toArray [Value.int .i64 m.traits, v_m_1, v_m_2, Value.int .i64 m.need]), v_x_0, Value.int IntKind.u8 set, v_by__0]) w fun e w' => e = .returned (Value.bool r0) ∧ Ext w w' := by
 have hI := Hp.start (Mu := []) hM
 refine calls_cw Try.func7 rfl Try.ntmps7 rfl ?_
 refine cw_seq (cw_regF ?_)
 refine y_box hI rfl rfl rfl ?_
 intro b1 w2 hI3 x4
 have hC6 := hI3.freezeRow 0 rfl
 have hI5 := hI3.erase 0
 refine s_as rfl rfl ?_
 refine Reg.nil ?_
 refine cw_seq (cw_regF ?_)
 obtain ⟨z7, hz8, h⟩ := bnd h
 refine s_call rfl Try.call24 rfl ?_
 refine (C_law06_alive hI5.mlt hz8).mono ?_
 rintro _ w9 ⟨rfl, e10⟩
 refine ⟨_, rfl, ?_⟩
 have hI11 := hI5.ext e10
 refine s_as rfl rfl ?_
 refine Reg.nil ?_
 refine cw_seq (cw_seq (cw_regF ?_))
 refine s_mv rfl rfl ?_
 refine s_not rfl rfl ?_
 refine Reg.nil ?_
 refine cw_cond rfl (fun hc12 => ?_) (fun hc12 => ?_)
 ·replace h := cdT hc12 h
  refine cw_seq (cw_regF ?_)
  refine s_as rfl rfl ?_
  refine Reg.nil ?_
  refine cw_ret ?_
  obtain rfl := Option.some.inj h
  refine fin1 Try.results7 rfl ?_
  exact ⟨rfl, hI11.kp⟩
 ·replace h := cdF hc12 h
  refine cw_skip (cw_seq (cw_seq (cw_regF ?_)))
  refine s_lda rfl (hC6.adv (Adv.of_ext e10)).cells Try.isAgg25 rfl Try.sizeOf25 rfl ?_
  refine s_mv rfl rfl ?_
  obtain ⟨z13, hz14, h⟩ := bnd h
  refine s_call rfl Try.call25 rfl ?_
  refine (C_law06_ready hI11.mlt f_m_0 (f_m_1.adv hI11.adv) (f_m_2.adv hI11.adv) f_m_3 (f_x_0.adv hI11.adv) hz14).mono ?_
  rintro _ w15 ⟨rfl, e16⟩
  refine ⟨_, rfl, ?_⟩
  have hI17 := hI11.ext e16
  refine s_not rfl rfl ?_
  refine Reg.nil ?_
  refine cw_cond rfl (fun hc18 => ?_) (fun hc18 => ?_)
  ·replace h := cdT hc18 h
   refine cw_seq (cw_regF ?_)
   refine s_mv rfl rfl ?_
   refine s_as rfl rfl ?_
   refine Reg.nil ?_
   refine cw_ret ?_
   obtain rfl := Option.some.inj h
   refine fin1 Try.results7 rfl ?_
   exact ⟨rfl, hI17.kp⟩
  ·replace h := cdF hc18 h
   refine cw_skip (cw_seq (cw_regF ?_))
   refine s_lda rfl (hC6.adv ((Adv.of_ext e10).trans (Adv.of_ext e16))).cells Try.isAgg25 rfl Try.sizeOf25 rfl ?_
   refine s_mv rfl rfl ?_
   obtain ⟨⟨z19, z20, z21⟩, hz22, h⟩ := bnd h
   refine s_call rfl Try.call14 rfl ?_
   refine (C_score_Score hI17.mlt f_m_0 (f_m_1.adv hI17.adv) (f_m_2.adv hI17.adv) f_m_3 (f_x_0.adv hI17.adv) hz22).mono ?_
   rintro _ w23 ⟨rfl, r25, r26, e24⟩
   refine ⟨_, rfl, ?_⟩
   have hI27 := hI17.ext e24
   refine s_mv rfl rfl ?_
   refine s_xt rfl rfl rfl ?_
   refine s_xt rfl rfl rfl ?_
   refine s_xt rfl rfl rfl ?_
   refine s_as rfl rfl ?_
   refine s_as rfl rfl ?_
   refine s_as rfl rfl ?_
   refine Reg.nil ?_
   refine cw_seq (cw_regF ?_)
   refine s_lda rfl (hC6.adv ((Adv.of_ext e10).trans ((Adv.of_ext e16).trans (Adv.of_ext e24)))).cells Try.isAgg25 rfl Try.sizeOf25 rfl ?_
   refine s_mv rfl rfl ?_
   obtain ⟨⟨z28, z29, z30⟩, hz31, h⟩ := bnd h
   refine s_call rfl Try.call28 rfl ?_
   refine (C_score_Reasons hI27.mlt f_m_0 (f_m_1.adv hI27.adv) (f_m_2.adv hI27.adv) f_m_3 (f_x_0.adv hI27.adv) hz31).mono ?_
   rintro _ w32 ⟨v34, v36, rfl, hf35, hf37, r38, e33⟩
   refine ⟨_, rfl, ?_⟩
   have hI39 := hI27.ext e33
   refine s_mv rfl rfl ?_
   refine s_xt rfl rfl rfl ?_
   refine s_xt rfl rfl rfl ?_
   refine s_xt rfl rfl rfl ?_
   refine s_as rfl rfl ?_
   refine s_as rfl rfl ?_
   refine s_as rfl rfl ?_
   refine Reg.nil ?_
   refine cw_seq (cw_seq (cw_regF ?_))
   refine s_mv rfl rfl ?_
   refine s_neq rfl rfl rfl ?_
   refine Reg.nil ?_
   refine cw_cond rfl (fun hc40 => ?_) (fun hc40 => ?_)
   ·replace h := cdT hc40 h
    refine cw_seq (cw_regF ?_)
    refine s_as rfl rfl ?_
    refine Reg.nil ?_
    refine cw_ret ?_
    obtain rfl := Option.some.inj h
    refine fin1 Try.results7 rfl ?_
    exact ⟨rfl, hI39.kp⟩
   ·replace h := cdF hc40 h
    refine cw_skip (cw_seq (cw_regF ?_))
    refine s_as rfl rfl ?_
    refine Reg.nil ?_
    refine cw_seq (cw_regF ?_)
    refine y_bs (E := (intE .i64)) (xs := []) sl26 hI39 rfl rfl Cls.nil Chs.nil rfl rfl ?_
    intro v41 w42 hI43 x44
    refine s_mv rfl rfl ?_
    obtain ⟨l45, hl45, h⟩ := bnd h
    obtain ⟨hbl45, el45⟩ := appo_out hl45
    refine y_app 0 sl26 hI43 rfl rfl rfl (f_x_0.adv hI43.adv) hbl45 rfl ?_
    rw [← el45]
    intro v46 w47 hI48 x49
    refine s_as rfl rfl ?_
    refine Reg.nil ?_
    refine cw_seq (cw_seq (cw_regF ?_))
    refine s_mv rfl rfl ?_
    refine s_lenO rfl (hI48.ownAt 0 rfl) Try.underlying26 rfl ?_
    refine s_mv rfl rfl ?_
    refine Reg.nil ?_
    obtain ⟨j50, h51, h⟩ := bnd h
    refine cw_sub (L := [(2, _), (3, _), (16, _), (60, _), (61, _), (1, _), (4, _), (9, _), (11, _), (13, _), (14, _), (15, _), (17, _)]) (Sub.cons rfl (Sub.cons rfl (Sub.cons rfl (Sub.cons rfl (Sub.cons rfl (Sub.cons rfl (Sub.cons rfl (Sub.cons rfl (Sub.cons rfl (Sub.cons rfl (Sub.cons rfl (Sub.cons rfl (Sub.cons rfl (Sub.nil _)))))))))))))) ?_
    refine cw_unitD 5 (ι := (List Int) × (List Int) × Value) (fun ⟨x52, x54, v53⟩ => [(16, v53)]) (fun ⟨x52, x54, v53⟩ => fun w55 => Hp w [] M [ownR [] (intE .i64) 3 v53 x52, ownR [] (intE .i64) 3 v46 x54] w55 ∧ Adv (mm [ownR [] (intE .i64) 3 v46 l45] M) (mm [ownR [] (intE .i64) 3 v53 x52, ownR [] (intE .i64) 3 v46 x54] M) w47 w55 ∧ (x52, x54) = j50) ?_ ?_
    ·skip
     refine cw_block ?_
     refine cw_sub (L := [(16, _), (61, _), (1, _), (2, _), (3, _), (4, _), (9, _), (11, _), (13, _), (14, _), (15, _), (17, _), (60, _)]) (Sub.cons rfl (Sub.cons rfl (Sub.cons rfl (Sub.cons rfl (Sub.cons rfl (Sub.cons rfl (Sub.cons rfl (Sub.cons rfl (Sub.cons rfl (Sub.cons rfl (Sub.cons rfl (Sub.cons rfl (Sub.cons rfl (Sub.nil _)))))))))))))) ?_
     have hI66 := hI48.addNil (intE .i64) 3
     refine cw_loopM 2 (ι := (List Int) × Int × (List Int) × Value) _ (fun ⟨x58, x60, x62, v59⟩ => [(16, v59), (61, Value.int .i64 x60)]) (fun ⟨x58, x60, x62, v59⟩ => (x58, x60, x62)) (fun ⟨x58, x60, x62, v59⟩ => fun w63 => Hp w [] M [ownR [] (intE .i64) 3 v59 x58, ownR [] (intE .i64) 3 v46 x62] w63 ∧ Adv (mm [ownR [] (intE .i64) 3 v46 l45] M) (mm [ownR [] (intE .i64) 3 v59 x58, ownR [] (intE .i64) 3 v46 x62] M) w47 w63 ∧ InK .i64 x60) (([] : List Int), 0, l45, (Value.slice none 0 0)) h51 ⟨hI66, (Hp.addNilA (σ := [ownR [] (intE .i64) 3 v46 l45]) (intE .i64) 3), (by decide)⟩ (Sub.cons rfl (Sub.cons rfl (Sub.cons rfl (Sub.cons rfl (Sub.cons rfl (Sub.cons rfl (Sub.cons rfl (Sub.cons rfl (Sub.cons rfl (Sub.cons rfl (Sub.cons rfl (Sub.cons rfl (Sub.cons rfl (Sub.nil _)))))))))))))) ?_
     rintro ⟨x58, x60, x62, v59⟩ w63 ⟨hI64, hA65, r61⟩ y67 h68 hR69
     refine cw_seq (cw_regF ?_)
     refine s_lss rfl rfl rfl ?_
     refine Reg.nil ?_
     refine cw_seq ?_
     refine cw_cond rfl (fun hc70 => ?_) (fun hc70 => ?_)
     ·replace h68 := cdT hc70 h68
      refine cw_skip ?_
      obtain ⟨j71, h72, h68⟩ := bnd h68
      refine cw_sub (L := [(16, _), (1, _), (2, _), (3, _), (4, _), (9, _), (11, _), (13, _), (14, _), (15, _), (17, _), (60, _), (61, _)]) (Sub.cons rfl (Sub.cons rfl (Sub.cons rfl (Sub.cons rfl (Sub.cons rfl (Sub.cons rfl (Sub.cons rfl (Sub.cons rfl (Sub.cons rfl (Sub.cons rfl (Sub.cons rfl (Sub.cons rfl (Sub.cons rfl (Sub.nil _)))))))))))))) ?_
      refine cw_seqD 1 (ι := (List Int) × (List Int) × Value) (fun ⟨x73, x75, v74⟩ => [(16, v74)]) (fun ⟨x73, x75, v74⟩ => fun w76 => Hp w [] M [ownR [] (intE .i64) 3 v74 x73, ownR [] (intE .i64) 3 v46 x75] w76 ∧ Adv (mm [ownR [] (intE .i64) 3 v59 x58, ownR [] (intE .i64) 3 v46 x62] M) (mm [ownR [] (intE .i64) 3 v74 x73, ownR [] (intE .i64) 3 v46 x75] M) w63 w76 ∧ (x73, x75) = j71) ?_ ?_
      ·skip
       refine cw_block ?_
       refine cw_seq (cw_regF ?_)
       refine s_mv rfl rfl ?_
       refine s_as rfl rfl ?_
       refine Reg.nil ?_
       refine cw_seq (cw_regF ?_)
       refine s_mv rfl rfl ?_
       refine s_mv rfl rfl ?_
       obtain ⟨n79, hn79, h72⟩ := bnd h72
       refine p_shr rfl rfl rfl hn79 ?_
       refine s_and rfl rfl rfl ?_
       refine s_eql rfl rfl rfl ?_
       refine Reg.nil ?_
       obtain ⟨j80, h81, h72⟩ := bnd h72
       refine cw_sub (L := [(16, _), (18, _), (68, _), (1, _), (2, _), (3, _), (4, _), (9, _), (11, _), (13, _), (14, _), (15, _), (17, _), (60, _), (61, _)]) (Sub.cons rfl (Sub.cons rfl (Sub.cons rfl (Sub.cons rfl (Sub.cons rfl (Sub.cons rfl (Sub.cons rfl (Sub.cons rfl (Sub.cons rfl (Sub.cons rfl (Sub.cons rfl (Sub.cons rfl (Sub.cons rfl (Sub.cons rfl (Sub.cons rfl (Sub.nil _)))))))))))))))) ?_
       refine cw_unitD 3 (ι := (List Int) × (List Int) × Value) (fun ⟨x82, x84, v83⟩ => [(16, v83)]) (fun ⟨x82, x84, v83⟩ => fun w85 => Hp w [] M [ownR [] (intE .i64) 3 v83 x82, ownR [] (intE .i64) 3 v46 x84] w85 ∧ Adv (mm [ownR [] (intE .i64) 3 v59 x58, ownR [] (intE .i64) 3 v46 x62] M) (mm [ownR [] (intE .i64) 3 v83 x82, ownR [] (intE .i64) 3 v46 x84] M) w63 w85 ∧ (x82, x84) = j80) ?_ ?_
       ·skip
        refine cw_cond rfl (fun hc88 => ?_) (fun hc88 => ?_)
        ·replace h81 := cdT hc88 h81
         refine cw_seq (cw_regF ?_)
         refine s_mv rfl rfl ?_
         refine s_mv rfl rfl ?_
         refine y_bs (E := (intE .i64)) (xs := [x60]) sl26 hI64 rfl rfl (Cls.cons rfl Cls.nil) (Chs.cons ⟨rfl, r61⟩ Chs.nil) rfl rfl ?_
         intro v89 w90 hI91 x92
         have hf93 := hI91.freeze 0 rfl
         have hI94 := hI91.erase 0
         obtain ⟨l95, hl95, h81⟩ := bnd h81
         obtain ⟨hbl95, el95⟩ := appo_out hl95
         refine y_app 0 sl26 hI94 rfl rfl rfl hf93 hbl95 rfl ?_
         rw [← el95]
         intro v96 w97 hI98 x99
         refine s_as rfl rfl ?_
         refine Reg.nil ?_
         refine cw_seq (cw_regF ?_)
         refine s_lda rfl (hC6.adv ((Adv.of_ext e10).trans ((Adv.of_ext e16).trans ((Adv.of_ext e24).trans ((Adv.of_ext e33).trans (x44.trans (x49.trans (hA65.trans (x92.trans ((Hp.eraseA (σ := [ownR [] (intE .i64) 3 v89 ([x60] : List Int), ownR [] (intE .i64) 3 v59 x58, ownR [] (intE .i64) 3 v46 x62]) 0).trans x99)))))))))).cells Try.isAgg25 rfl Try.sizeOf25 rfl ?_
         refine s_mv rfl rfl ?_
         obtain ⟨z100, hz101, h81⟩ := bnd h81
         refine s_call rfl Try.call26 rfl ?_
         refine (C_ref06_Steps hI98.mlt f_m_0 (f_m_1.adv hI98.adv) (f_m_2.adv hI98.adv) f_m_3 r61 hz101).mono ?_
         rintro _ w102 ⟨v104, rfl, hf105, e103⟩
         refine ⟨_, rfl, ?_⟩
         have hI106 := hI98.ext e103
         refine s_as rfl rfl ?_
         refine Reg.nil ?_
         refine cw_seq (cw_regF ?_)
         refine s_mv rfl rfl ?_
         refine s_mv rfl rfl ?_
         refine s_mv rfl rfl ?_
         refine s_mv rfl rfl ?_
         refine s_mv rfl rfl ?_
         obtain ⟨n107, hn107, h81⟩ := bnd h81
         replace hn107 := chk_out hn107
         refine p_mul rfl rfl rfl hn107 ?_
         obtain ⟨z108, hz109, h81⟩ := bnd h81
         refine s_call rfl Try.call27 rfl ?_
         refine (C_law06_at hI106.mlt (f_by__0.adv hI106.adv) hn107.2 hz109).mono ?_
         rintro _ w110 ⟨rfl, r112, e111⟩
         refine ⟨_, rfl, ?_⟩
         have hI113 := hI106.ext e111
         obtain ⟨n114, hn114, h81⟩ := bnd h81
         replace hn114 := chk_out hn114
         refine p_cvt rfl Try.underlying65 Try.underlying3 rfl hn114 ?_
         refine s_mv rfl rfl ?_
         refine s_len rfl (hf105.adv (Adv.of_ext e111)) Try.underlying26 rfl ?_
         obtain ⟨n115, hn115, h81⟩ := bnd h81
         have kn115 := remO_out hn115
         refine p_rem rfl rfl rfl kn115 ?_
         obtain ⟨y116, hy116, h81⟩ := bnd h81
         refine p_ia rfl rfl (hf105.adv (Adv.of_ext e111)) hy116 Try.underlying26 Try.sizeOf3 rfl ?_
         intro b117 o118 cs119 hR120 hC121
         obtain ⟨rfl, r122⟩ := hR120
         refine s_ld rfl (hC121.cells.at 0 rfl) Try.isAgg3 rfl ?_
         obtain ⟨y123, hy123, h81⟩ := bnd h81
         refine y_ia 1 hI113 rfl rfl rfl hy123 Try.underlying26 Try.sizeOf3 rfl ?_
         intro g124 cs125 hg126 hR127 hC128
         have khR127 := hR127
         obtain ⟨rfl, r129⟩ := hR127
         obtain ⟨l130, hl130, h81⟩ := bnd h81
         refine y_sto 1 (E := (intE .i64)) (o := 0) hI113 rfl rfl rfl rfl hg126 hl130 ⟨rfl, r129⟩ hC128 ⟨rfl, r122⟩ rfl Try.sizeOf3 rfl (one1 rfl one0) ?_
         intro w131 hI132 x133
         refine Reg.nil ?_
         refine cw_seq (cw_regF ?_)
         refine s_mv rfl rfl ?_
         refine s_mv rfl rfl ?_
         obtain ⟨n134, hn134, h81⟩ := bnd h81
         replace hn134 := chk_out hn134
         refine p_mul rfl rfl rfl hn134 ?_
         obtain ⟨n135, hn135, h81⟩ := bnd h81
         replace hn135 := chk_out hn135
         refine p_add rfl rfl rfl hn135 ?_
         obtain ⟨z136, hz137, h81⟩ := bnd h81
         refine s_call rfl Try.call27 rfl ?_
         refine (C_law06_at hI132.mlt (f_by__0.adv hI132.adv) hn135.2 hz137).mono ?_
         rintro _ w138 ⟨rfl, r140, e139⟩
         refine ⟨_, rfl, ?_⟩
         have hI141 := hI132.ext e139
         obtain ⟨n142, hn142, h81⟩ := bnd h81
         have kn142 := remO_out hn142
         refine p_rem rfl rfl rfl kn142 ?_
         refine s_eql rfl rfl rfl ?_
         refine Reg.nil ?_
         obtain ⟨j143, h144, h81⟩ := bnd h81
         refine cw_sub (L := [(18, _), (96, _), (1, _), (2, _), (3, _), (4, _), (9, _), (11, _), (13, _), (14, _), (15, _), (16, _), (17, _), (60, _), (61, _)]) (Sub.cons rfl (Sub.cons rfl (Sub.cons rfl (Sub.cons rfl (Sub.cons rfl (Sub.cons rfl (Sub.cons rfl (Sub.cons rfl (Sub.cons rfl (Sub.cons rfl (Sub.cons rfl (Sub.cons rfl (Sub.cons rfl (Sub.cons rfl (Sub.cons rfl (Sub.nil _)))))))))))))))) ?_
         refine cw_unitD 2 (ι := (List Int)) (fun x145 => []) (fun x145 => fun w146 => Hp w [] M [ownR [] (intE .i64) 3 v96 l95, ownR [] (intE .i64) 3 v46 x145] w146 ∧ Adv (mm [ownR [] (intE .i64) 3 v96 l95, ownR [] (intE .i64) 3 v46 l130] M) (mm [ownR [] (intE .i64) 3 v96 l95, ownR [] (intE .i64) 3 v46 x145] M) w138 w146 ∧ x145 = j143) ?_ ?_
         ·skip
          refine cw_cond rfl (fun hc149 => ?_) (fun hc149 => ?_)
          ·replace h144 := cdT hc149 h144
           refine cw_regF ?_
           refine s_mv rfl rfl ?_
           refine s_mv rfl rfl ?_
           refine s_mv rfl rfl ?_
           refine s_mv rfl rfl ?_
           obtain ⟨n150, hn150, h144⟩ := bnd h144
           replace hn150 := chk_out hn150
           refine p_mul rfl rfl rfl hn150 ?_
           obtain ⟨z151, hz152, h144⟩ := bnd h144
           refine s_call rfl Try.call27 rfl ?_
           refine (C_law06_at hI141.mlt (f_by__0.adv hI141.adv) hn150.2 hz152).mono ?_
           rintro _ w153 ⟨rfl, r155, e154⟩
           refine ⟨_, rfl, ?_⟩
           have hI156 := hI141.ext e154
           obtain ⟨n157, hn157, h144⟩ := bnd h144
           replace hn157 := chk_out hn157
           refine p_cvt rfl Try.underlying65 Try.underlying3 rfl hn157 ?_
           obtain ⟨n158, hn158, h144⟩ := bnd h144
           have kn158 := remO_out hn158
           refine p_rem rfl rfl rfl kn158 ?_
           obtain ⟨y159, hy159, h144⟩ := bnd h144
           refine y_ia 1 hI156 rfl rfl rfl hy159 Try.underlying26 Try.sizeOf3 rfl ?_
           intro g160 cs161 hg162 hR163 hC164
           have khR163 := hR163
           obtain ⟨rfl, r165⟩ := hR163
           obtain ⟨l166, hl166, h144⟩ := bnd h144
           refine y_sto 1 (E := (intE .i64)) (o := 0) hI156 rfl rfl rfl rfl hg162 hl166 ⟨rfl, r165⟩ hC164 ⟨rfl, (remO_in hn158 hn157.2)⟩ rfl Try.sizeOf3 rfl (one1 rfl one0) ?_
           intro w167 hI168 x169
           refine Reg.nil ?_
           obtain rfl := Option.some.inj h144
           refine ⟨rfl, l166, ⟨hI168, ((Adv.of_ext e154).trans x169), rfl⟩, Sub.cons rfl (Sub.cons rfl (Sub.cons rfl (Sub.cons rfl (Sub.cons rfl (Sub.cons rfl (Sub.cons rfl (Sub.cons rfl (Sub.cons rfl (Sub.cons rfl (Sub.cons rfl (Sub.cons rfl (Sub.cons rfl (Sub.nil _)))))))))))))⟩
          ·replace h144 := cdF hc149 h144
           refine cw_skip ?_
           obtain rfl := Option.some.inj h144
           refine ⟨rfl, l130, ⟨hI141, (Adv.refl _ _), rfl⟩, Sub.cons rfl (Sub.cons rfl (Sub.cons rfl (Sub.cons rfl (Sub.cons rfl (Sub.cons rfl (Sub.cons rfl (Sub.cons rfl (Sub.cons rfl (Sub.cons rfl (Sub.cons rfl (Sub.cons rfl (Sub.cons rfl (Sub.nil _)))))))))))))⟩
         ·skip
          rintro x145 w146 ⟨hI147, hA148, rfl⟩
          obtain rfl := Option.some.inj h81
          refine ⟨rfl, (l95, x145, v96), ⟨hI147, (x92.trans ((Hp.eraseA (σ := [ownR [] (intE .i64) 3 v89 ([x60] : List Int), ownR [] (intE .i64) 3 v59 x58, ownR [] (intE .i64) 3 v46 x62]) 0).trans (x99.trans ((Adv.of_ext e103).trans ((Adv.of_ext e111).trans (x133.trans ((Adv.of_ext e139).trans hA148))))))), rfl⟩, Sub.cons rfl (Sub.cons rfl (Sub.cons rfl (Sub.cons rfl (Sub.cons rfl (Sub.cons rfl (Sub.cons rfl (Sub.cons rfl (Sub.cons rfl (Sub.cons rfl (Sub.cons rfl (Sub.cons rfl (Sub.cons rfl (Sub.nil _)))))))))))))⟩
        ·replace h81 := cdF hc88 h81
         refine cw_skip ?_
         obtain rfl := Option.some.inj h81
         refine ⟨rfl, (x58, x62, v59), ⟨hI64, (Adv.refl _ _), rfl⟩, Sub.cons rfl (Sub.cons rfl (Sub.cons rfl (Sub.cons rfl (Sub.cons rfl (Sub.cons rfl (Sub.cons rfl (Sub.cons rfl (Sub.cons rfl (Sub.cons rfl (Sub.cons rfl (Sub.cons rfl (Sub.cons rfl (Sub.nil _)))))))))))))⟩
       ·skip
        rintro ⟨x82, x84, v83⟩ w85 ⟨hI86, hA87, rfl⟩
        obtain rfl := Option.some.inj h72
        refine ⟨rfl, (x82, x84, v83), ⟨hI86, hA87, rfl⟩, Sub.cons rfl (Sub.cons rfl (Sub.cons rfl (Sub.cons rfl (Sub.cons rfl (Sub.cons rfl (Sub.cons rfl (Sub.cons rfl (Sub.cons rfl (Sub.cons rfl (Sub.cons rfl (Sub.cons rfl (Sub.cons rfl (Sub.nil _)))))))))))))⟩
      ·skip
       rintro ⟨x73, x75, v74⟩ w76 ⟨hI77, hA78, rfl⟩
       refine cw_regF ?_
       obtain ⟨n170, hn170, h68⟩ := bnd h68
       replace hn170 := chk_out hn170
       refine p_add rfl rfl rfl hn170 ?_
       refine s_mv rfl rfl ?_
       refine Reg.nil ?_
       obtain rfl := Option.some.inj h68
       refine ⟨rfl, (x73, n170, x75, v74), ⟨⟨hI77, (hA65.trans hA78), hn170.2⟩, rfl⟩, Sub.cons rfl (Sub.cons rfl (Sub.cons rfl (Sub.cons rfl (Sub.cons rfl (Sub.cons rfl (Sub.cons rfl (Sub.cons rfl (Sub.cons rfl (Sub.cons rfl (Sub.cons rfl (Sub.cons rfl (Sub.cons rfl (Sub.nil _)))))))))))))⟩
     ·replace h68 := cdF hc70 h68
      refine cw_exit ?_
      refine exB_same ?_
      obtain rfl := Option.some.inj h68
      obtain rfl := hR69 _ rfl
      refine ⟨rfl, (x58, x62, v59), ⟨hI64, hA65, rfl⟩, Sub.cons rfl (Sub.cons rfl (Sub.cons rfl (Sub.cons rfl (Sub.cons rfl (Sub.cons rfl (Sub.cons rfl (Sub.cons rfl (Sub.cons rfl (Sub.nil _)))))))))⟩
    ·skip
     rintro ⟨x52, x54, v53⟩ w55 ⟨hI56, hA57, rfl⟩
     refine cw_seq (cw_regF ?_)
     refine s_lda rfl (hC6.adv ((Adv.of_ext e10).trans ((Adv.of_ext e16).trans ((Adv.of_ext e24).trans ((Adv.of_ext e33).trans (x44.trans (x49.trans hA57))))))).cells Try.isAgg25 rfl Try.sizeOf25 rfl ?_
     refine s_mv rfl rfl ?_
     obtain ⟨⟨z171, z172, z173⟩, hz174, h⟩ := bnd h
     refine s_call rfl Try.call14 rfl ?_
     refine (C_score_Score (hI56.sel [0] rfl).mlt f_m_0 ((f_m_1.adv hI56.adv).adv (Hp.selA (σ := [ownR [] (intE .i64) 3 v53 x52, ownR [] (intE .i64) 3 v46 x54]) [0])) ((f_m_2.adv hI56.adv).adv (Hp.selA (σ := [ownR [] (intE .i64) 3 v53 x52, ownR [] (intE .i64) 3 v46 x54]) [0])) f_m_3 (hI56.lendRd [0] 1 rfl rfl) hz174).mono ?_
     rintro _ w175 ⟨rfl, r177, r178, e176⟩
     refine ⟨_, rfl, ?_⟩
     have hI179 := hI56.ext e176
     refine s_mv rfl rfl ?_
     refine s_xt rfl rfl rfl ?_
     refine s_xt rfl rfl rfl ?_
     refine s_xt rfl rfl rfl ?_
     refine s_as rfl rfl ?_
     refine s_as rfl rfl ?_
     refine s_as rfl rfl ?_
     refine Reg.nil ?_
     refine cw_seq (cw_seq (cw_regF ?_))
     refine s_mv rfl rfl ?_
     refine s_neq rfl rfl rfl ?_
     refine Reg.nil ?_
     refine cw_cond rfl (fun hc180 => ?_) (fun hc180 => ?_)
     ·replace h := cdT hc180 h
      refine cw_seq (cw_regF ?_)
      refine s_as rfl rfl ?_
      refine Reg.nil ?_
      refine cw_ret ?_
      obtain rfl := Option.some.inj h
      refine fin1 Try.results7 rfl ?_
      exact ⟨rfl, hI179.kp⟩
     ·replace h := cdF hc180 h
      refine cw_skip (cw_seq (cw_seq (cw_regF ?_)))
      refine s_mv rfl rfl ?_
      refine s_neq rfl rfl rfl ?_
      refine Reg.nil ?_
      refine cw_cond rfl (fun hc181 => ?_) (fun hc181 => ?_)
      ·replace h := cdT hc181 h
       obtain ⟨j182, h183, h⟩ := bnd h
       refine cw_sub (L := [(9, _), (11, _), (13, _), (14, _), (15, _), (21, _)]) (Sub.cons rfl (Sub.cons rfl (Sub.cons rfl (Sub.cons rfl (Sub.cons rfl (Sub.cons rfl (Sub.nil _))))))) ?_
       refine cw_seqD 6 (ι := Bool) (fun x184 => [(8, Value.bool x184)]) (fun x184 => fun w185 => w175 = w185 ∧ x184 = j182) ?_ ?_
       ·skip
        refine cw_regF ?_
        refine s_mv rfl rfl ?_
        refine s_mv rfl rfl ?_
        refine Reg.gsplit (t := 119) rfl (fun hg188 => ?_) (fun hg188 => ?_)
        ·replace h183 := cdT hg188 h183
         refine Reg.take rfl rfl ?_
         refine s_mv rfl rfl ?_
         refine Reg.take rfl rfl ?_
         refine s_eql rfl rfl rfl ?_
         refine s_pkT rfl rfl rfl ?_
         refine s_mv rfl rfl ?_
         refine Reg.gsplit (t := 123) rfl (fun hg189 => ?_) (fun hg189 => ?_)
         ·replace h183 := cdT hg189 h183
          refine Reg.take rfl rfl ?_
          refine s_mv rfl rfl ?_
          refine Reg.take rfl rfl ?_
          refine s_len rfl (hf35.adv (x44.trans (x49.trans (hA57.trans (Adv.of_ext e176))))) Try.underlying26 rfl ?_
          refine Reg.take rfl rfl ?_
          refine s_eql rfl rfl rfl ?_
          refine s_pkT rfl rfl rfl ?_
          refine s_mv rfl rfl ?_
          refine Reg.gsplit (t := 128) rfl (fun hg190 => ?_) (fun hg190 => ?_)
          ·replace h183 := cdT hg190 h183
           refine Reg.take rfl rfl ?_
           refine s_mv rfl rfl ?_
           refine Reg.take rfl rfl ?_
           refine s_len rfl (hf37.adv (x44.trans (x49.trans (hA57.trans (Adv.of_ext e176))))) Try.underlying26 rfl ?_
           refine Reg.take rfl rfl ?_
           refine s_eql rfl rfl rfl ?_
           refine s_pkT rfl rfl rfl ?_
           refine s_mv rfl rfl ?_
           refine Reg.gsplit (t := 133) rfl (fun hg191 => ?_) (fun hg191 => ?_)
           ·replace h183 := cdT hg191 h183
            refine Reg.take rfl rfl ?_
            refine s_mv rfl rfl ?_
            refine Reg.take rfl rfl ?_
            refine s_mv rfl rfl ?_
            refine Reg.take rfl rfl ?_
            refine s_eqB rfl rfl rfl Try.underlying4 ?_
            refine s_pkT rfl rfl rfl ?_
            refine s_as rfl rfl ?_
            refine Reg.nil ?_
            obtain rfl := Option.some.inj h183
            refine ⟨rfl, (z172 == z20), ⟨rfl, rfl⟩, Sub.cons rfl (Sub.nil _)⟩
           ·replace h183 := cdF hg191 h183
            refine Reg.pass rfl rfl rfl rfl ?_
            refine Reg.pass rfl rfl rfl rfl ?_
            refine Reg.pass rfl rfl rfl rfl ?_
            refine s_pkF rfl rfl rfl ?_
            refine s_as rfl rfl ?_
            refine Reg.nil ?_
            obtain rfl := Option.some.inj h183
            refine ⟨rfl, false, ⟨rfl, rfl⟩, Sub.cons rfl (Sub.nil _)⟩
          ·replace h183 := cdF hg190 h183
           refine Reg.pass rfl rfl rfl rfl ?_
           refine Reg.pass rfl rfl rfl rfl ?_
           refine Reg.pass rfl rfl rfl rfl ?_
           refine s_pkF rfl rfl rfl ?_
           refine s_mv rfl rfl ?_
           refine Reg.pass rfl rfl rfl rfl ?_
           refine Reg.pass rfl rfl rfl rfl ?_
           refine Reg.pass rfl rfl rfl rfl ?_
           refine s_pkF rfl rfl rfl ?_
           refine s_as rfl rfl ?_
           refine Reg.nil ?_
           obtain rfl := Option.some.inj h183
           refine ⟨rfl, false, ⟨rfl, rfl⟩, Sub.cons rfl (Sub.nil _)⟩
         ·replace h183 := cdF hg189 h183
          refine Reg.pass rfl rfl rfl rfl ?_
          refine Reg.pass rfl rfl rfl rfl ?_
          refine Reg.pass rfl rfl rfl rfl ?_
          refine s_pkF rfl rfl rfl ?_
          refine s_mv rfl rfl ?_
          refine Reg.pass rfl rfl rfl rfl ?_
          refine Reg.pass rfl rfl rfl rfl ?_
          refine Reg.pass rfl rfl rfl rfl ?_
          refine s_pkF rfl rfl rfl ?_
          refine s_mv rfl rfl ?_
          refine Reg.pass rfl rfl rfl rfl ?_
          refine Reg.pass rfl rfl rfl rfl ?_
          refine Reg.pass rfl rfl rfl rfl ?_
          refine s_pkF rfl rfl rfl ?_
          refine s_as rfl rfl ?_
          refine Reg.nil ?_
          obtain rfl := Option.some.inj h183
          refine ⟨rfl, false, ⟨rfl, rfl⟩, Sub.cons rfl (Sub.nil _)⟩
        ·replace h183 := cdF hg188 h183
         refine Reg.pass rfl rfl rfl rfl ?_
         refine Reg.pass rfl rfl rfl rfl ?_
         refine s_pkF rfl rfl rfl ?_
         refine s_mv rfl rfl ?_
         refine Reg.pass rfl rfl rfl rfl ?_
         refine Reg.pass rfl rfl rfl rfl ?_
         refine Reg.pass rfl rfl rfl rfl ?_
         refine s_pkF rfl rfl rfl ?_
         refine s_mv rfl rfl ?_
         refine Reg.pass rfl rfl rfl rfl ?_
         refine Reg.pass rfl rfl rfl rfl ?_
         refine Reg.pass rfl rfl rfl rfl ?_
         refine s_pkF rfl rfl rfl ?_
         refine s_mv rfl rfl ?_
         refine Reg.pass rfl rfl rfl rfl ?_
         refine Reg.pass rfl rfl rfl rfl ?_
         refine Reg.pass rfl rfl rfl rfl ?_
         refine s_pkF rfl rfl rfl ?_
         refine s_as rfl rfl ?_
         refine Reg.nil ?_
         obtain rfl := Option.some.inj h183
         refine ⟨rfl, false, ⟨rfl, rfl⟩, Sub.cons rfl (Sub.nil _)⟩
       ·skip
        rintro x184 _ ⟨rfl, rfl⟩
        refine cw_ret ?_
        obtain rfl := Option.some.inj h
        refine fin1 Try.results7 rfl ?_
        exact ⟨rfl, hI179.kp⟩
      ·replace h := cdF hc181 h
       refine cw_skip ?_
       refine cw_seq ?_
       obtain ⟨j192, h193, h⟩ := bnd h
       refine cw_sub (L := [(1, _), (4, _), (9, _), (11, _), (13, _), (14, _), (16, _), (17, _), (21, _)]) (Sub.cons rfl (Sub.cons rfl (Sub.cons rfl (Sub.cons rfl (Sub.cons rfl (Sub.cons rfl (Sub.cons rfl (Sub.cons rfl (Sub.cons rfl (Sub.nil _)))))))))) ?_
       refine cw_seqD 0 (ι := Bool) (fun x194 => [(147, Value.bool x194)]) (fun x194 => fun w195 => w175 = w195 ∧ x194 = j192) ?_ ?_
       ·skip
        refine cw_regF ?_
        refine s_mv rfl rfl ?_
        refine s_len rfl (hf35.adv (x44.trans (x49.trans (hA57.trans (Adv.of_ext e176))))) Try.underlying26 rfl ?_
        refine s_eql rfl rfl rfl ?_
        refine s_mv rfl rfl ?_
        refine Reg.gsplit (t := 141) rfl (fun hg198 => ?_) (fun hg198 => ?_)
        ·replace h193 := cdT hg198 h193
         refine Reg.pass rfl rfl rfl rfl ?_
         refine Reg.pass rfl rfl rfl rfl ?_
         refine Reg.pass rfl rfl rfl rfl ?_
         refine Reg.pass rfl rfl rfl rfl ?_
         refine Reg.pass rfl rfl rfl rfl ?_
         refine s_pkT rfl rfl rfl ?_
         refine Reg.nil ?_
         obtain rfl := Option.some.inj h193
         refine ⟨rfl, true, ⟨rfl, rfl⟩, Sub.cons rfl (Sub.cons rfl (Sub.cons rfl (Sub.cons rfl (Sub.cons rfl (Sub.cons rfl (Sub.cons rfl (Sub.cons rfl (Sub.cons rfl (Sub.cons rfl (Sub.nil _))))))))))⟩
        ·replace h193 := cdF hg198 h193
         refine Reg.take rfl rfl ?_
         refine s_mv rfl rfl ?_
         refine Reg.take rfl rfl ?_
         refine s_len rfl (hf37.adv (x44.trans (x49.trans (hA57.trans (Adv.of_ext e176))))) Try.underlying26 rfl ?_
         refine Reg.take rfl rfl ?_
         refine s_mv rfl rfl ?_
         refine Reg.take rfl rfl ?_
         refine s_len rfl (hf35.adv (x44.trans (x49.trans (hA57.trans (Adv.of_ext e176))))) Try.underlying26 rfl ?_
         refine Reg.take rfl rfl ?_
         refine s_neq rfl rfl rfl ?_
         refine s_pkF rfl rfl rfl ?_
         refine Reg.nil ?_
         obtain rfl := Option.some.inj h193
         refine ⟨rfl, !decide ((z29.length : Int) = (z28.length : Int)), ⟨rfl, rfl⟩, Sub.cons rfl (Sub.cons rfl (Sub.cons rfl (Sub.cons rfl (Sub.cons rfl (Sub.cons rfl (Sub.cons rfl (Sub.cons rfl (Sub.cons rfl (Sub.cons rfl (Sub.nil _))))))))))⟩
       ·skip
        rintro x194 _ ⟨rfl, rfl⟩
        refine cw_cond rfl (fun hc199 => ?_) (fun hc199 => ?_)
        ·replace h := cdT hc199 h
         refine cw_seq (cw_regF ?_)
         refine s_as rfl rfl ?_
         refine Reg.nil ?_
         refine cw_ret ?_
         obtain rfl := Option.some.inj h
         refine fin1 Try.results7 rfl ?_
         exact ⟨rfl, hI179.kp⟩
        ·replace h := cdF hc199 h
         refine cw_skip (cw_seq (cw_regF ?_))
         refine y_bs (E := (intE .i64)) (xs := []) sl26 hI179 rfl rfl Cls.nil Chs.nil rfl rfl ?_
         intro v200 w201 hI202 x203
         refine s_mv rfl rfl ?_
         obtain ⟨l204, hl204, h⟩ := bnd h
         obtain ⟨hbl204, el204⟩ := appo_out hl204
         refine y_app 0 sl26 hI202 rfl rfl rfl (f_x_0.adv hI202.adv) hbl204 rfl ?_
         rw [← el204]
         intro v205 w206 hI207 x208
         refine s_as rfl rfl ?_
         refine Reg.nil ?_
         refine cw_seq (cw_seq (cw_regF ?_))
         refine s_mv rfl rfl ?_
         refine s_len rfl (hf35.adv (x44.trans (x49.trans (hA57.trans ((Adv.of_ext e176).trans (x203.trans x208)))))) Try.underlying26 rfl ?_
         refine s_mv rfl rfl ?_
         refine Reg.nil ?_
         obtain ⟨j209, h210, h⟩ := bnd h
         refine cw_sub (L := [(1, _), (151, _), (152, _), (153, _), (4, _), (9, _), (11, _), (13, _), (14, _), (16, _), (17, _), (21, _), (23, _)]) (Sub.cons rfl (Sub.cons rfl (Sub.cons rfl (Sub.cons rfl (Sub.cons rfl (Sub.cons rfl (Sub.cons rfl (Sub.cons rfl (Sub.cons rfl (Sub.cons rfl (Sub.cons rfl (Sub.cons rfl (Sub.cons rfl (Sub.nil _)))))))))))))) ?_
         refine cw_unitD 4 (ι := (List Int)) (fun x211 => []) (fun x211 => fun w212 => Hp w [] M [ownR [] (intE .i64) 3 v205 x211, ownR [] (intE .i64) 3 v53 x52, ownR [] (intE .i64) 3 v46 x54] w212 ∧ Adv (mm [ownR [] (intE .i64) 3 v205 l204, ownR [] (intE .i64) 3 v53 x52, ownR [] (intE .i64) 3 v46 x54] M) (mm [ownR [] (intE .i64) 3 v205 x211, ownR [] (intE .i64) 3 v53 x52, ownR [] (intE .i64) 3 v46 x54] M) w206 w212 ∧ (.inl x211) = j209) ?_ ?_
         ·skip
          refine cw_block ?_
          refine cw_sub (L := [(153, _), (1, _), (4, _), (9, _), (11, _), (13, _), (14, _), (16, _), (17, _), (21, _), (23, _), (151, _), (152, _)]) (Sub.cons rfl (Sub.cons rfl (Sub.cons rfl (Sub.cons rfl (Sub.cons rfl (Sub.cons rfl (Sub.cons rfl (Sub.cons rfl (Sub.cons rfl (Sub.cons rfl (Sub.cons rfl (Sub.cons rfl (Sub.cons rfl (Sub.nil _)))))))))))))) ?_
          refine cw_loopM 1 (ι := Int × (List Int)) _ (fun ⟨x215, x217⟩ => [(153, Value.int .i64 x215)]) (fun ⟨x215, x217⟩ => (x215, x217)) (fun ⟨x215, x217⟩ => fun w218 => Hp w [] M [ownR [] (intE .i64) 3 v205 x217, ownR [] (intE .i64) 3 v53 x52, ownR [] (intE .i64) 3 v46 x54] w218 ∧ Adv (mm [ownR [] (intE .i64) 3 v205 l204, ownR [] (intE .i64) 3 v53 x52, ownR [] (intE .i64) 3 v46 x54] M) (mm [ownR [] (intE .i64) 3 v205 x217, ownR [] (intE .i64) 3 v53 x52, ownR [] (intE .i64) 3 v46 x54] M) w206 w218 ∧ InK .i64 x215) (0, l204) h210 ⟨hI207, (Adv.refl _ _), (by decide)⟩ (Sub.cons rfl (Sub.cons rfl (Sub.cons rfl (Sub.cons rfl (Sub.cons rfl (Sub.cons rfl (Sub.cons rfl (Sub.cons rfl (Sub.cons rfl (Sub.cons rfl (Sub.cons rfl (Sub.cons rfl (Sub.cons rfl (Sub.nil _)))))))))))))) ?_
          rintro ⟨x215, x217⟩ w218 ⟨hI219, hA220, r216⟩ y221 h222 hR223
          refine cw_seq (cw_regF ?_)
          refine s_lss rfl rfl rfl ?_
          refine Reg.nil ?_
          refine cw_seq ?_
          refine cw_cond rfl (fun hc224 => ?_) (fun hc224 => ?_)
          ·replace h222 := cdT hc224 h222
           refine cw_skip ?_
           refine cw_seq ?_
           refine cw_block ?_
           refine cw_seq (cw_regF ?_)
           refine s_mv rfl rfl ?_
           obtain ⟨y225, hy225, h222⟩ := bnd h222
           refine p_ia rfl rfl (hf35.adv (x44.trans (x49.trans (hA57.trans ((Adv.of_ext e176).trans (x203.trans (x208.trans hA220))))))) hy225 Try.underlying26 Try.sizeOf3 rfl ?_
           intro b226 o227 cs228 hR229 hC230
           obtain ⟨rfl, r231⟩ := hR229
           refine s_ld rfl (hC230.cells.at 0 rfl) Try.isAgg3 rfl ?_
           refine s_as rfl rfl ?_
           refine s_as rfl rfl ?_
           refine Reg.nil ?_
           refine cw_seq ?_
           obtain ⟨j232, h233, h222⟩ := bnd h222
           refine cw_sub (L := [(1, _), (4, _), (9, _), (11, _), (13, _), (14, _), (16, _), (17, _), (21, _), (23, _), (24, _), (25, _), (151, _), (152, _), (153, _)]) (Sub.cons rfl (Sub.cons rfl (Sub.cons rfl (Sub.cons rfl (Sub.cons rfl (Sub.cons rfl (Sub.cons rfl (Sub.cons rfl (Sub.cons rfl (Sub.cons rfl (Sub.cons rfl (Sub.cons rfl (Sub.cons rfl (Sub.cons rfl (Sub.cons rfl (Sub.nil _)))))))))))))))) ?_
           refine cw_seqD 0 (ι := Bool) (fun x234 => [(203, Value.bool x234)]) (fun x234 => fun w235 => Hp w [] M [ownR [] (intE .i64) 3 v205 x217, ownR [] (intE .i64) 3 v53 x52, ownR [] (intE .i64) 3 v46 x54] w235 ∧ Adv (mm [ownR [] (intE .i64) 3 v205 x217, ownR [] (intE .i64) 3 v53 x52, ownR [] (intE .i64) 3 v46 x54] M) (mm [ownR [] (intE .i64) 3 v205 x217, ownR [] (intE .i64) 3 v53 x52, ownR [] (intE .i64) 3 v46 x54] M) w218 w235 ∧ x234 = j232) ?_ ?_
           ·skip
            refine cw_regT fol (by kernel_rfl) ?_
            refine s_mv rfl rfl ?_
            refine s_lss rfl rfl rfl ?_
            refine s_mv rfl rfl ?_
            refine Reg.gsplit (t := 160) rfl (fun hg238 => ?_) (fun hg238 => ?_)
            ·replace h233 := cdT hg238 h233
             refine Reg.pass rfl rfl rfl rfl ?_
             refine Reg.pass rfl rfl rfl rfl ?_
             refine Reg.pass rfl rfl rfl rfl ?_
             refine Reg.pass rfl rfl rfl rfl ?_
             refine s_pkT rfl rfl rfl ?_
             refine s_mv rfl rfl ?_
             refine Reg.pass rfl rfl rfl rfl ?_
             refine Reg.pass rfl rfl rfl rfl ?_
             refine Reg.pass rfl rfl rfl rfl ?_
             refine Reg.passU rfl rfl rfl ?_
             refine Reg.passU rfl rfl rfl ?_
             refine Reg.passU rfl rfl rfl ?_
             refine Reg.passU rfl rfl rfl ?_
             refine Reg.passU rfl rfl rfl ?_
             refine Reg.passU rfl rfl rfl ?_
             refine Reg.passU rfl rfl rfl ?_
             refine Reg.pass rfl rfl rfl rfl ?_
             refine s_pkT rfl rfl rfl ?_
             refine s_mv rfl rfl ?_
             refine Reg.pass rfl rfl rfl rfl ?_
             refine Reg.pass rfl rfl rfl rfl ?_
             refine Reg.pass rfl rfl rfl rfl ?_
             refine Reg.pass rfl rfl rfl rfl ?_
             refine Reg.pass rfl rfl rfl rfl ?_
             refine s_pkT rfl rfl rfl ?_
             refine s_mv rfl rfl ?_
             refine Reg.pass rfl rfl rfl rfl ?_
             refine Reg.pass rfl rfl rfl rfl ?_
             refine Reg.pass rfl rfl rfl rfl ?_
             refine Reg.pass rfl rfl rfl rfl ?_
             refine Reg.pass rfl rfl rfl rfl ?_
             refine s_pkT rfl rfl rfl ?_
             refine s_mv rfl rfl ?_
             refine Reg.pass rfl rfl rfl rfl ?_
             refine Reg.pass rfl rfl rfl rfl ?_
             refine Reg.pass rfl rfl rfl rfl ?_
             refine Reg.pass rfl rfl rfl rfl ?_
             refine Reg.pass rfl rfl rfl rfl ?_
             refine Reg.pass rfl rfl rfl rfl ?_
             refine Reg.pass rfl rfl rfl rfl ?_
             refine Reg.pass rfl rfl rfl rfl ?_
             refine Reg.pass rfl rfl rfl rfl ?_
             refine s_pkT rfl rfl rfl ?_
             refine Reg.nilq (fun w239 e240 => ?_)
             have hI241 := hI219.ext e240
             obtain rfl := Option.some.inj h233
             refine ⟨rfl, true, ⟨hI241, (Adv.of_ext e240), rfl⟩, Sub.cons rfl (Sub.cons rfl (Sub.cons rfl (Sub.cons rfl (Sub.cons rfl (Sub.cons rfl (Sub.cons rfl (Sub.cons rfl (Sub.cons rfl (Sub.cons rfl (Sub.cons rfl (Sub.cons rfl (Sub.cons rfl (Sub.cons rfl (Sub.cons rfl (Sub.cons rfl (Sub.nil _))))))))))))))))⟩
            ·replace h233 := cdF hg238 h233
             refine Reg.take rfl rfl ?_
             refine s_mv rfl rfl ?_
             refine Reg.take rfl rfl ?_
             refine s_mv rfl rfl ?_
             refine Reg.take rfl rfl ?_
             refine s_len rfl (f_x_0.adv hI219.adv) Try.underlying26 rfl ?_
             refine Reg.take rfl rfl ?_
             refine s_geq rfl rfl rfl ?_
             refine s_pkF rfl rfl rfl ?_
             refine s_mv rfl rfl ?_
             refine Reg.gsplit (t := 166) rfl (fun hg242 => ?_) (fun hg242 => ?_)
             ·replace h233 := cdT hg242 h233
              refine Reg.pass rfl rfl rfl rfl ?_
              refine Reg.pass rfl rfl rfl rfl ?_
              refine Reg.pass rfl rfl rfl rfl ?_
              refine Reg.passU rfl rfl rfl ?_
              refine Reg.passU rfl rfl rfl ?_
              refine Reg.passU rfl rfl rfl ?_
              refine Reg.passU rfl rfl rfl ?_
              refine Reg.passU rfl rfl rfl ?_
              refine Reg.passU rfl rfl rfl ?_
              refine Reg.passU rfl rfl rfl ?_
              refine Reg.pass rfl rfl rfl rfl ?_
              refine s_pkT rfl rfl rfl ?_
              refine s_mv rfl rfl ?_
              refine Reg.pass rfl rfl rfl rfl ?_
              refine Reg.pass rfl rfl rfl rfl ?_
              refine Reg.pass rfl rfl rfl rfl ?_
              refine Reg.pass rfl rfl rfl rfl ?_
              refine Reg.pass rfl rfl rfl rfl ?_
              refine s_pkT rfl rfl rfl ?_
              refine s_mv rfl rfl ?_
              refine Reg.pass rfl rfl rfl rfl ?_
              refine Reg.pass rfl rfl rfl rfl ?_
              refine Reg.pass rfl rfl rfl rfl ?_
              refine Reg.pass rfl rfl rfl rfl ?_
              refine Reg.pass rfl rfl rfl rfl ?_
              refine s_pkT rfl rfl rfl ?_
              refine s_mv rfl rfl ?_
              refine Reg.pass rfl rfl rfl rfl ?_
              refine Reg.pass rfl rfl rfl rfl ?_
              refine Reg.pass rfl rfl rfl rfl ?_
              refine Reg.pass rfl rfl rfl rfl ?_
              refine Reg.pass rfl rfl rfl rfl ?_
              refine Reg.pass rfl rfl rfl rfl ?_
              refine Reg.pass rfl rfl rfl rfl ?_
              refine Reg.pass rfl rfl rfl rfl ?_
              refine Reg.pass rfl rfl rfl rfl ?_
              refine s_pkT rfl rfl rfl ?_
              refine Reg.nilq (fun w243 e244 => ?_)
              have hI245 := hI219.ext e244
              obtain rfl := Option.some.inj h233
              refine ⟨rfl, true, ⟨hI245, (Adv.of_ext e244), rfl⟩, Sub.cons rfl (Sub.cons rfl (Sub.cons rfl (Sub.cons rfl (Sub.cons rfl (Sub.cons rfl (Sub.cons rfl (Sub.cons rfl (Sub.cons rfl (Sub.cons rfl (Sub.cons rfl (Sub.cons rfl (Sub.cons rfl (Sub.cons rfl (Sub.cons rfl (Sub.cons rfl (Sub.nil _))))))))))))))))⟩
             ·replace h233 := cdF hg242 h233
              refine Reg.take rfl rfl ?_
              refine s_mv rfl rfl ?_
              refine Reg.take rfl rfl ?_
              refine s_gtr rfl rfl rfl ?_
              refine Reg.take rfl rfl ?_
              refine s_mv rfl rfl ?_
              refine Reg.gsplit (t := 169) rfl (fun hg246 => ?_) (fun hg246 => ?_)
              ·replace h233 := cdT hg246 h233
               refine Reg.take rfl rfl ?_
               refine s_mv rfl rfl ?_
               refine Reg.take rfl rfl ?_
               refine s_mv rfl rfl ?_
               refine Reg.take rfl rfl ?_
               refine s_mv rfl rfl ?_
               refine Reg.take rfl rfl ?_
               obtain ⟨n247, hn247, h233⟩ := bnd h233
               replace hn247 := chk_out hn247
               refine p_sub rfl rfl rfl hn247 ?_
               refine Reg.take rfl rfl ?_
               obtain ⟨y248, hy248, h233⟩ := bnd h233
               refine p_ia rfl rfl (hf35.adv (x44.trans (x49.trans (hA57.trans ((Adv.of_ext e176).trans (x203.trans (x208.trans hA220))))))) hy248 Try.underlying26 Try.sizeOf3 rfl ?_
               intro b249 o250 cs251 hR252 hC253
               obtain ⟨rfl, r254⟩ := hR252
               refine Reg.take rfl rfl ?_
               refine s_ld rfl (hC253.cells.at 0 rfl) Try.isAgg3 rfl ?_
               refine Reg.take rfl rfl ?_
               refine s_leq rfl rfl rfl ?_
               refine Reg.take rfl rfl ?_
               refine s_pkT rfl rfl rfl ?_
               refine s_pkF rfl rfl rfl ?_
               refine s_mv rfl rfl ?_
               refine Reg.gsplit (t := 179) rfl (fun hg255 => ?_) (fun hg255 => ?_)
               ·replace h233 := cdT hg255 h233
                refine Reg.pass rfl rfl rfl rfl ?_
                refine Reg.pass rfl rfl rfl rfl ?_
                refine Reg.pass rfl rfl rfl rfl ?_
                refine Reg.pass rfl rfl rfl rfl ?_
                refine Reg.pass rfl rfl rfl rfl ?_
                refine s_pkT rfl rfl rfl ?_
                refine s_mv rfl rfl ?_
                refine Reg.pass rfl rfl rfl rfl ?_
                refine Reg.pass rfl rfl rfl rfl ?_
                refine Reg.pass rfl rfl rfl rfl ?_
                refine Reg.pass rfl rfl rfl rfl ?_
                refine Reg.pass rfl rfl rfl rfl ?_
                refine s_pkT rfl rfl rfl ?_
                refine s_mv rfl rfl ?_
                refine Reg.pass rfl rfl rfl rfl ?_
                refine Reg.pass rfl rfl rfl rfl ?_
                refine Reg.pass rfl rfl rfl rfl ?_
                refine Reg.pass rfl rfl rfl rfl ?_
                refine Reg.pass rfl rfl rfl rfl ?_
                refine Reg.pass rfl rfl rfl rfl ?_
                refine Reg.pass rfl rfl rfl rfl ?_
                refine Reg.pass rfl rfl rfl rfl ?_
                refine Reg.pass rfl rfl rfl rfl ?_
                refine s_pkT rfl rfl rfl ?_
                refine Reg.nilq (fun w256 e257 => ?_)
                have hI258 := hI219.ext e257
                obtain rfl := Option.some.inj h233
                refine ⟨rfl, true, ⟨hI258, (Adv.of_ext e257), rfl⟩, Sub.cons rfl (Sub.cons rfl (Sub.cons rfl (Sub.cons rfl (Sub.cons rfl (Sub.cons rfl (Sub.cons rfl (Sub.cons rfl (Sub.cons rfl (Sub.cons rfl (Sub.cons rfl (Sub.cons rfl (Sub.cons rfl (Sub.cons rfl (Sub.cons rfl (Sub.cons rfl (Sub.nil _))))))))))))))))⟩
               ·replace h233 := cdF hg255 h233
                refine Reg.take rfl rfl ?_
                refine s_mv rfl rfl ?_
                refine Reg.take rfl rfl ?_
                refine s_mv rfl rfl ?_
                refine Reg.take rfl rfl ?_
                obtain ⟨y259, hy259, h233⟩ := bnd h233
                refine p_ia rfl rfl (hf37.adv (x44.trans (x49.trans (hA57.trans ((Adv.of_ext e176).trans (x203.trans (x208.trans hA220))))))) hy259 Try.underlying26 Try.sizeOf3 rfl ?_
                intro b260 o261 cs262 hR263 hC264
                obtain ⟨rfl, r265⟩ := hR263
                refine Reg.take rfl rfl ?_
                refine s_ld rfl (hC264.cells.at 0 rfl) Try.isAgg3 rfl ?_
                refine Reg.take rfl rfl ?_
                refine s_lss rfl rfl rfl ?_
                refine s_pkF rfl rfl rfl ?_
                refine s_mv rfl rfl ?_
                refine Reg.gsplit (t := 186) rfl (fun hg266 => ?_) (fun hg266 => ?_)
                ·replace h233 := cdT hg266 h233
                 refine Reg.pass rfl rfl rfl rfl ?_
                 refine Reg.pass rfl rfl rfl rfl ?_
                 refine Reg.pass rfl rfl rfl rfl ?_
                 refine Reg.pass rfl rfl rfl rfl ?_
                 refine Reg.pass rfl rfl rfl rfl ?_
                 refine s_pkT rfl rfl rfl ?_
                 refine s_mv rfl rfl ?_
                 refine Reg.pass rfl rfl rfl rfl ?_
                 refine Reg.pass rfl rfl rfl rfl ?_
                 refine Reg.pass rfl rfl rfl rfl ?_
                 refine Reg.pass rfl rfl rfl rfl ?_
                 refine Reg.pass rfl rfl rfl rfl ?_
                 refine Reg.pass rfl rfl rfl rfl ?_
                 refine Reg.pass rfl rfl rfl rfl ?_
                 refine Reg.pass rfl rfl rfl rfl ?_
                 refine Reg.pass rfl rfl rfl rfl ?_
                 refine s_pkT rfl rfl rfl ?_
                 refine Reg.nilq (fun w267 e268 => ?_)
                 have hI269 := hI219.ext e268
                 obtain rfl := Option.some.inj h233
                 refine ⟨rfl, true, ⟨hI269, (Adv.of_ext e268), rfl⟩, Sub.cons rfl (Sub.cons rfl (Sub.cons rfl (Sub.cons rfl (Sub.cons rfl (Sub.cons rfl (Sub.cons rfl (Sub.cons rfl (Sub.cons rfl (Sub.cons rfl (Sub.cons rfl (Sub.cons rfl (Sub.cons rfl (Sub.cons rfl (Sub.cons rfl (Sub.cons rfl (Sub.nil _))))))))))))))))⟩
                ·replace h233 := cdF hg266 h233
                 refine Reg.take rfl rfl ?_
                 refine s_mv rfl rfl ?_
                 refine Reg.take rfl rfl ?_
                 refine s_mv rfl rfl ?_
                 refine Reg.take rfl rfl ?_
                 obtain ⟨y270, hy270, h233⟩ := bnd h233
                 refine p_ia rfl rfl (hf37.adv (x44.trans (x49.trans (hA57.trans ((Adv.of_ext e176).trans (x203.trans (x208.trans hA220))))))) hy270 Try.underlying26 Try.sizeOf3 rfl ?_
                 intro b271 o272 cs273 hR274 hC275
                 obtain ⟨rfl, r276⟩ := hR274
                 refine Reg.take rfl rfl ?_
                 refine s_ld rfl (hC275.cells.at 0 rfl) Try.isAgg3 rfl ?_
                 refine Reg.take rfl rfl ?_
                 refine s_gtr rfl rfl rfl ?_
                 refine s_pkF rfl rfl rfl ?_
                 refine s_mv rfl rfl ?_
                 refine Reg.gsplit (t := 193) rfl (fun hg277 => ?_) (fun hg277 => ?_)
                 ·replace h233 := cdT hg277 h233
                  refine Reg.pass rfl rfl rfl rfl ?_
                  refine Reg.pass rfl rfl rfl rfl ?_
                  refine Reg.pass rfl rfl rfl rfl ?_
                  refine Reg.pass rfl rfl rfl rfl ?_
                  refine Reg.pass rfl rfl rfl rfl ?_
                  refine Reg.pass rfl rfl rfl rfl ?_
                  refine Reg.pass rfl rfl rfl rfl ?_
                  refine Reg.pass rfl rfl rfl rfl ?_
                  refine Reg.pass rfl rfl rfl rfl ?_
                  refine s_pkT rfl rfl rfl ?_
                  refine Reg.nilq (fun w278 e279 => ?_)
                  have hI280 := hI219.ext e279
                  obtain rfl := Option.some.inj h233
                  refine ⟨rfl, true, ⟨hI280, (Adv.of_ext e279), rfl⟩, Sub.cons rfl (Sub.cons rfl (Sub.cons rfl (Sub.cons rfl (Sub.cons rfl (Sub.cons rfl (Sub.cons rfl (Sub.cons rfl (Sub.cons rfl (Sub.cons rfl (Sub.cons rfl (Sub.cons rfl (Sub.cons rfl (Sub.cons rfl (Sub.cons rfl (Sub.cons rfl (Sub.nil _))))))))))))))))⟩
                 ·replace h233 := cdF hg277 h233
                  refine Reg.take rfl rfl ?_
                  refine s_mv rfl rfl ?_
                  refine Reg.take rfl rfl ?_
                  refine s_mv rfl rfl ?_
                  refine Reg.take rfl rfl ?_
                  obtain ⟨y281, hy281, h233⟩ := bnd h233
                  refine p_ia rfl rfl (hf37.adv (x44.trans (x49.trans (hA57.trans ((Adv.of_ext e176).trans (x203.trans (x208.trans hA220))))))) hy281 Try.underlying26 Try.sizeOf3 rfl ?_
                  intro b282 o283 cs284 hR285 hC286
                  obtain ⟨rfl, r287⟩ := hR285
                  refine Reg.take rfl rfl ?_
                  refine s_ld rfl (hC286.cells.at 0 rfl) Try.isAgg3 rfl ?_
                  refine Reg.take rfl rfl ?_
                  refine s_mv rfl rfl ?_
                  refine Reg.take rfl rfl ?_
                  refine s_mv rfl rfl ?_
                  refine Reg.take rfl rfl ?_
                  obtain ⟨y288, hy288, h233⟩ := bnd h233
                  refine p_ia rfl rfl (f_x_0.adv hI219.adv) hy288 Try.underlying26 Try.sizeOf3 rfl ?_
                  intro b289 o290 cs291 hR292 hC293
                  obtain ⟨rfl, r294⟩ := hR292
                  refine Reg.take rfl rfl ?_
                  refine s_ld rfl (hC293.cells.at 0 rfl) Try.isAgg3 rfl ?_
                  refine Reg.take rfl rfl ?_
                  refine s_eql rfl rfl rfl ?_
                  refine s_pkF rfl rfl rfl ?_
                  refine Reg.nilq (fun w295 e296 => ?_)
                  have hI297 := hI219.ext e296
                  obtain rfl := Option.some.inj h233
                  refine ⟨rfl, decide (y281 = y288), ⟨hI297, (Adv.of_ext e296), rfl⟩, Sub.cons rfl (Sub.cons rfl (Sub.cons rfl (Sub.cons rfl (Sub.cons rfl (Sub.cons rfl (Sub.cons rfl (Sub.cons rfl (Sub.cons rfl (Sub.cons rfl (Sub.cons rfl (Sub.cons rfl (Sub.cons rfl (Sub.cons rfl (Sub.cons rfl (Sub.cons rfl (Sub.nil _))))))))))))))))⟩
              ·replace h233 := cdF hg246 h233
               refine Reg.pass rfl rfl rfl rfl ?_
               refine Reg.pass rfl rfl rfl rfl ?_
               refine Reg.pass rfl rfl rfl rfl ?_
               refine Reg.pass rfl rfl rfl rfl ?_
               refine Reg.pass rfl rfl rfl rfl ?_
               refine Reg.pass rfl rfl rfl rfl ?_
               refine Reg.pass rfl rfl rfl rfl ?_
               refine Reg.take rfl rfl ?_
               refine s_pkF rfl rfl rfl ?_
               refine s_pkF rfl rfl rfl ?_
               refine s_mv rfl rfl ?_
               refine Reg.take rfl rfl ?_
               refine s_mv rfl rfl ?_
               refine Reg.take rfl rfl ?_
               refine s_mv rfl rfl ?_
               refine Reg.take rfl rfl ?_
               obtain ⟨y298, hy298, h233⟩ := bnd h233
               refine p_ia rfl rfl (hf37.adv (x44.trans (x49.trans (hA57.trans ((Adv.of_ext e176).trans (x203.trans (x208.trans hA220))))))) hy298 Try.underlying26 Try.sizeOf3 rfl ?_
               intro b299 o300 cs301 hR302 hC303
               obtain ⟨rfl, r304⟩ := hR302
               refine Reg.take rfl rfl ?_
               refine s_ld rfl (hC303.cells.at 0 rfl) Try.isAgg3 rfl ?_
               refine Reg.take rfl rfl ?_
               refine s_lss rfl rfl rfl ?_
               refine s_pkF rfl rfl rfl ?_
               refine s_mv rfl rfl ?_
               refine Reg.gsplit (t := 186) rfl (fun hg305 => ?_) (fun hg305 => ?_)
               ·replace h233 := cdT hg305 h233
                refine Reg.pass rfl rfl rfl rfl ?_
                refine Reg.pass rfl rfl rfl rfl ?_
                refine Reg.pass rfl rfl rfl rfl ?_
                refine Reg.pass rfl rfl rfl rfl ?_
                refine Reg.pass rfl rfl rfl rfl ?_
                refine s_pkT rfl rfl rfl ?_
                refine s_mv rfl rfl ?_
                refine Reg.pass rfl rfl rfl rfl ?_
                refine Reg.pass rfl rfl rfl rfl ?_
                refine Reg.pass rfl rfl rfl rfl ?_
                refine Reg.pass rfl rfl rfl rfl ?_
                refine Reg.pass rfl rfl rfl rfl ?_
                refine Reg.pass rfl rfl rfl rfl ?_
                refine Reg.pass rfl rfl rfl rfl ?_
                refine Reg.pass rfl rfl rfl rfl ?_
                refine Reg.pass rfl rfl rfl rfl ?_
                refine s_pkT rfl rfl rfl ?_
                refine Reg.nilq (fun w306 e307 => ?_)
                have hI308 := hI219.ext e307
                obtain rfl := Option.some.inj h233
                refine ⟨rfl, true, ⟨hI308, (Adv.of_ext e307), rfl⟩, Sub.cons rfl (Sub.cons rfl (Sub.cons rfl (Sub.cons rfl (Sub.cons rfl (Sub.cons rfl (Sub.cons rfl (Sub.cons rfl (Sub.cons rfl (Sub.cons rfl (Sub.cons rfl (Sub.cons rfl (Sub.cons rfl (Sub.cons rfl (Sub.cons rfl (Sub.cons rfl (Sub.nil _))))))))))))))))⟩
               ·replace h233 := cdF hg305 h233
                refine Reg.take rfl rfl ?_
                refine s_mv rfl rfl ?_
                refine Reg.take rfl rfl ?_
                refine s_mv rfl rfl ?_
                refine Reg.take rfl rfl ?_
                obtain ⟨y309, hy309, h233⟩ := bnd h233
                refine p_ia rfl rfl (hf37.adv (x44.trans (x49.trans (hA57.trans ((Adv.of_ext e176).trans (x203.trans (x208.trans hA220))))))) hy309 Try.underlying26 Try.sizeOf3 rfl ?_
                intro b310 o311 cs312 hR313 hC314
                obtain ⟨rfl, r315⟩ := hR313
                refine Reg.take rfl rfl ?_
                refine s_ld rfl (hC314.cells.at 0 rfl) Try.isAgg3 rfl ?_
                refine Reg.take rfl rfl ?_
                refine s_gtr rfl rfl rfl ?_
                refine s_pkF rfl rfl rfl ?_
                refine s_mv rfl rfl ?_
                refine Reg.gsplit (t := 193) rfl (fun hg316 => ?_) (fun hg316 => ?_)
                ·replace h233 := cdT hg316 h233
                 refine Reg.pass rfl rfl rfl rfl ?_
                 refine Reg.pass rfl rfl rfl rfl ?_
                 refine Reg.pass rfl rfl rfl rfl ?_
                 refine Reg.pass rfl rfl rfl rfl ?_
                 refine Reg.pass rfl rfl rfl rfl ?_
                 refine Reg.pass rfl rfl rfl rfl ?_
                 refine Reg.pass rfl rfl rfl rfl ?_
                 refine Reg.pass rfl rfl rfl rfl ?_
                 refine Reg.pass rfl rfl rfl rfl ?_
                 refine s_pkT rfl rfl rfl ?_
                 refine Reg.nilq (fun w317 e318 => ?_)
                 have hI319 := hI219.ext e318
                 obtain rfl := Option.some.inj h233
                 refine ⟨rfl, true, ⟨hI319, (Adv.of_ext e318), rfl⟩, Sub.cons rfl (Sub.cons rfl (Sub.cons rfl (Sub.cons rfl (Sub.cons rfl (Sub.cons rfl (Sub.cons rfl (Sub.cons rfl (Sub.cons rfl (Sub.cons rfl (Sub.cons rfl (Sub.cons rfl (Sub.cons rfl (Sub.cons rfl (Sub.cons rfl (Sub.cons rfl (Sub.nil _))))))))))))))))⟩
                ·replace h233 := cdF hg316 h233
                 refine Reg.take rfl rfl ?_
                 refine s_mv rfl rfl ?_
                 refine Reg.take rfl rfl ?_
                 refine s_mv rfl rfl ?_
                 refine Reg.take rfl rfl ?_
                 obtain ⟨y320, hy320, h233⟩ := bnd h233
                 refine p_ia rfl rfl (hf37.adv (x44.trans (x49.trans (hA57.trans ((Adv.of_ext e176).trans (x203.trans (x208.trans hA220))))))) hy320 Try.underlying26 Try.sizeOf3 rfl ?_
                 intro b321 o322 cs323 hR324 hC325
                 obtain ⟨rfl, r326⟩ := hR324
                 refine Reg.take rfl rfl ?_
                 refine s_ld rfl (hC325.cells.at 0 rfl) Try.isAgg3 rfl ?_
                 refine Reg.take rfl rfl ?_
                 refine s_mv rfl rfl ?_
                 refine Reg.take rfl rfl ?_
                 refine s_mv rfl rfl ?_
                 refine Reg.take rfl rfl ?_
                 obtain ⟨y327, hy327, h233⟩ := bnd h233
                 refine p_ia rfl rfl (f_x_0.adv hI219.adv) hy327 Try.underlying26 Try.sizeOf3 rfl ?_
                 intro b328 o329 cs330 hR331 hC332
                 obtain ⟨rfl, r333⟩ := hR331
                 refine Reg.take rfl rfl ?_
                 refine s_ld rfl (hC332.cells.at 0 rfl) Try.isAgg3 rfl ?_
                 refine Reg.take rfl rfl ?_
                 refine s_eql rfl rfl rfl ?_
                 refine s_pkF rfl rfl rfl ?_
                 refine Reg.nilq (fun w334 e335 => ?_)
                 have hI336 := hI219.ext e335
                 obtain rfl := Option.some.inj h233
                 refine ⟨rfl, decide (y320 = y327), ⟨hI336, (Adv.of_ext e335), rfl⟩, Sub.cons rfl (Sub.cons rfl (Sub.cons rfl (Sub.cons rfl (Sub.cons rfl (Sub.cons rfl (Sub.cons rfl (Sub.cons rfl (Sub.cons rfl (Sub.cons rfl (Sub.cons rfl (Sub.cons rfl (Sub.cons rfl (Sub.cons rfl (Sub.cons rfl (Sub.cons rfl (Sub.nil _))))))))))))))))⟩
           ·skip
            rintro x234 w235 ⟨hI236, hA237, rfl⟩
            refine cw_cond rfl (fun hc337 => ?_) (fun hc337 => ?_)
            ·replace h222 := cdT hc337 h222
             refine cw_seq (cw_regF ?_)
             refine s_as rfl rfl ?_
             refine Reg.nil ?_
             refine cw_ret ?_
             obtain rfl := Option.some.inj h222
             obtain rfl := hR223 _ rfl
             replace h := elimR h
             obtain rfl := Option.some.inj h
             refine fin1 Try.results7 rfl ?_
             exact ⟨rfl, hI236.kp⟩
            ·replace h222 := cdF hc337 h222
             refine cw_skip ?_
             refine cw_regF ?_
             refine s_mv rfl rfl ?_
             refine s_mv rfl rfl ?_
             refine s_mv rfl rfl ?_
             refine s_mv rfl rfl ?_
             obtain ⟨y338, hy338, h222⟩ := bnd h222
             refine p_ia rfl rfl (hf37.adv (x44.trans (x49.trans (hA57.trans ((Adv.of_ext e176).trans (x203.trans (x208.trans (hA220.trans hA237)))))))) hy338 Try.underlying26 Try.sizeOf3 rfl ?_
             intro b339 o340 cs341 hR342 hC343
             obtain ⟨rfl, r344⟩ := hR342
             refine s_ld rfl (hC343.cells.at 0 rfl) Try.isAgg3 rfl ?_
             obtain ⟨y345, hy345, h222⟩ := bnd h222
             refine y_ia 0 hI236 rfl rfl rfl hy345 Try.underlying26 Try.sizeOf3 rfl ?_
             intro g346 cs347 hg348 hR349 hC350
             have khR349 := hR349
             obtain ⟨rfl, r351⟩ := hR349
             obtain ⟨l352, hl352, h222⟩ := bnd h222
             refine y_sto 0 (E := (intE .i64)) (o := 0) hI236 rfl rfl rfl rfl hg348 hl352 ⟨rfl, r351⟩ hC350 ⟨rfl, r344⟩ rfl Try.sizeOf3 rfl (one1 rfl one0) ?_
             intro w353 hI354 x355
             refine Reg.nil ?_
             refine cw_regF ?_
             obtain ⟨n356, hn356, h222⟩ := bnd h222
             replace hn356 := chk_out hn356
             refine p_add rfl rfl rfl hn356 ?_
             refine s_mv rfl rfl ?_
             refine Reg.nil ?_
             obtain rfl := Option.some.inj h222
             refine ⟨rfl, (n356, l352), ⟨⟨hI354, (hA220.trans (hA237.trans x355)), hn356.2⟩, rfl⟩, Sub.cons rfl (Sub.cons rfl (Sub.cons rfl (Sub.cons rfl (Sub.cons rfl (Sub.cons rfl (Sub.cons rfl (Sub.cons rfl (Sub.cons rfl (Sub.cons rfl (Sub.cons rfl (Sub.cons rfl (Sub.cons rfl (Sub.nil _)))))))))))))⟩
          ·replace h222 := cdF hc224 h222
           refine cw_exit ?_
           refine exB_same ?_
           obtain rfl := Option.some.inj h222
           obtain rfl := hR223 _ rfl
           refine ⟨rfl, x217, ⟨hI219, hA220, rfl⟩, Sub.cons rfl (Sub.cons rfl (Sub.cons rfl (Sub.cons rfl (Sub.cons rfl (Sub.cons rfl (Sub.cons rfl (Sub.cons rfl (Sub.cons rfl (Sub.nil _)))))))))⟩
         ·skip
          rintro x211 w212 ⟨hI213, hA214, rfl⟩
          replace h := elimL h
          refine cw_seq (cw_seq (cw_regF ?_))
          refine s_lda rfl (hC6.adv ((Adv.of_ext e10).trans ((Adv.of_ext e16).trans ((Adv.of_ext e24).trans ((Adv.of_ext e33).trans (x44.trans (x49.trans (hA57.trans ((Adv.of_ext e176).trans (x203.trans (x208.trans hA214))))))))))).cells Try.isAgg25 rfl Try.sizeOf25 rfl ?_
          refine s_mv rfl rfl ?_
          obtain ⟨⟨z357, z358, z359⟩, hz360, h⟩ := bnd h
          refine s_call rfl Try.call14 rfl ?_
          refine (C_score_Score (hI213.sel [1, 2] rfl).mlt f_m_0 ((f_m_1.adv hI213.adv).adv (Hp.selA (σ := [ownR [] (intE .i64) 3 v205 x211, ownR [] (intE .i64) 3 v53 x52, ownR [] (intE .i64) 3 v46 x54]) [1, 2])) ((f_m_2.adv hI213.adv).adv (Hp.selA (σ := [ownR [] (intE .i64) 3 v205 x211, ownR [] (intE .i64) 3 v53 x52, ownR [] (intE .i64) 3 v46 x54]) [1, 2])) f_m_3 (hI213.lendRd [1, 2] 0 rfl rfl) hz360).mono ?_
          rintro _ w361 ⟨rfl, r363, r364, e362⟩
          refine ⟨_, rfl, ?_⟩
          have hI365 := hI213.ext e362
          refine s_mv rfl rfl ?_
          refine s_xt rfl rfl rfl ?_
          refine s_xt rfl rfl rfl ?_
          refine s_xt rfl rfl rfl ?_
          refine s_as rfl rfl ?_
          refine s_as rfl rfl ?_
          refine s_as rfl rfl ?_
          refine Reg.nil ?_
          obtain ⟨j366, h367, h⟩ := bnd h
          refine cw_sub (L := [(27, _), (28, _), (9, _), (11, _), (13, _), (14, _), (16, _), (17, _), (21, _)]) (Sub.cons rfl (Sub.cons rfl (Sub.cons rfl (Sub.cons rfl (Sub.cons rfl (Sub.cons rfl (Sub.cons rfl (Sub.cons rfl (Sub.cons rfl (Sub.nil _)))))))))) ?_
          refine cw_seqD 2 (ι := Bool) (fun x368 => [(225, Value.bool x368)]) (fun x368 => fun w369 => w361 = w369 ∧ x368 = j366) ?_ ?_
          ·skip
           refine cw_regF ?_
           refine s_mv rfl rfl ?_
           refine s_neq rfl rfl rfl ?_
           refine s_mv rfl rfl ?_
           refine Reg.gsplit (t := 221) rfl (fun hg372 => ?_) (fun hg372 => ?_)
           ·replace h367 := cdT hg372 h367
            refine Reg.pass rfl rfl rfl rfl ?_
            refine Reg.pass rfl rfl rfl rfl ?_
            refine Reg.pass rfl rfl rfl rfl ?_
            refine s_pkT rfl rfl rfl ?_
            refine Reg.nil ?_
            obtain rfl := Option.some.inj h367
            refine ⟨rfl, true, ⟨rfl, rfl⟩, Sub.cons rfl (Sub.cons rfl (Sub.cons rfl (Sub.cons rfl (Sub.cons rfl (Sub.cons rfl (Sub.cons rfl (Sub.cons rfl (Sub.nil _))))))))⟩
           ·replace h367 := cdF hg372 h367
            refine Reg.take rfl rfl ?_
            refine s_mv rfl rfl ?_
            refine Reg.take rfl rfl ?_
            refine s_mv rfl rfl ?_
            refine Reg.take rfl rfl ?_
            refine s_eqB rfl rfl rfl Try.underlying4 ?_
            refine s_pkF rfl rfl rfl ?_
            refine Reg.nil ?_
            obtain rfl := Option.some.inj h367
            refine ⟨rfl, (z358 == z20), ⟨rfl, rfl⟩, Sub.cons rfl (Sub.cons rfl (Sub.cons rfl (Sub.cons rfl (Sub.cons rfl (Sub.cons rfl (Sub.cons rfl (Sub.cons rfl (Sub.nil _))))))))⟩
          ·skip
           rintro x368 _ ⟨rfl, rfl⟩
           refine cw_cond rfl (fun hc373 => ?_) (fun hc373 => ?_)
           ·replace h := cdT hc373 h
            refine cw_seq (cw_regF ?_)
            refine s_as rfl rfl ?_
            refine Reg.nil ?_
            refine cw_ret ?_
            obtain rfl := Option.some.inj h
            refine fin1 Try.results7 rfl ?_
            exact ⟨rfl, hI365.kp⟩
           ·replace h := cdF hc373 h
            refine cw_skip ?_
            refine cw_seq ?_
            obtain ⟨j374, h375, h⟩ := bnd h
            refine cw_sub (L := [(11, _), (21, _), (9, _), (13, _), (14, _), (16, _), (17, _)]) (Sub.cons rfl (Sub.cons rfl (Sub.cons rfl (Sub.cons rfl (Sub.cons rfl (Sub.cons rfl (Sub.cons rfl (Sub.nil _)))))))) ?_
            refine cw_seqD 2 (ι := Bool) (fun x376 => [(235, Value.bool x376)]) (fun x376 => fun w377 => w361 = w377 ∧ x376 = j374) ?_ ?_
            ·skip
             refine cw_regF ?_
             refine s_mv rfl rfl ?_
             refine s_mv rfl rfl ?_
             refine s_eqB rfl rfl rfl Try.underlying4 ?_
             refine s_mv rfl rfl ?_
             refine Reg.gsplit (t := 229) rfl (fun hg380 => ?_) (fun hg380 => ?_)
             ·replace h375 := cdT hg380 h375
              refine Reg.pass rfl rfl rfl rfl ?_
              refine Reg.pass rfl rfl rfl rfl ?_
              refine Reg.pass rfl rfl rfl rfl ?_
              refine Reg.pass rfl rfl rfl rfl ?_
              refine Reg.pass rfl rfl rfl rfl ?_
              refine s_pkT rfl rfl rfl ?_
              refine Reg.nil ?_
              obtain rfl := Option.some.inj h375
              refine ⟨rfl, true, ⟨rfl, rfl⟩, Sub.cons rfl (Sub.cons rfl (Sub.cons rfl (Sub.cons rfl (Sub.cons rfl (Sub.cons rfl (Sub.nil _))))))⟩
             ·replace h375 := cdF hg380 h375
              refine Reg.take rfl rfl ?_
              refine s_mv rfl rfl ?_
              refine Reg.take rfl rfl ?_
              refine s_lenO rfl (hI365.ownAt 1 rfl) Try.underlying26 rfl ?_
              refine Reg.take rfl rfl ?_
              refine s_mv rfl rfl ?_
              refine Reg.take rfl rfl ?_
              refine s_len rfl (hf35.adv (x44.trans (x49.trans (hA57.trans ((Adv.of_ext e176).trans (x203.trans (x208.trans (hA214.trans (Adv.of_ext e362))))))))) Try.underlying26 rfl ?_
              refine Reg.take rfl rfl ?_
              refine s_gtr rfl rfl rfl ?_
              refine s_pkF rfl rfl rfl ?_
              refine Reg.nil ?_
              obtain rfl := Option.some.inj h375
              refine ⟨rfl, decide ((z28.length : Int) < (x52.length : Int)), ⟨rfl, rfl⟩, Sub.cons rfl (Sub.cons rfl (Sub.cons rfl (Sub.cons rfl (Sub.cons rfl (Sub.cons rfl (Sub.nil _))))))⟩
            ·skip
             rintro x376 _ ⟨rfl, rfl⟩
             refine cw_cond rfl (fun hc381 => ?_) (fun hc381 => ?_)
             ·replace h := cdT hc381 h
              refine cw_seq (cw_regF ?_)
              refine s_mv rfl rfl ?_
              refine s_as rfl rfl ?_
              refine Reg.nil ?_
              refine cw_ret ?_
              obtain rfl := Option.some.inj h
              refine fin1 Try.results7 rfl ?_
              exact ⟨rfl, hI365.kp⟩
             ·replace h := cdF hc381 h
              refine cw_skip (cw_seq (cw_seq (cw_regF ?_)))
              refine s_mv rfl rfl ?_
              refine s_lenO rfl (hI365.ownAt 1 rfl) Try.underlying26 rfl ?_
              refine s_mv rfl rfl ?_
              refine s_len rfl (hf35.adv (x44.trans (x49.trans (hA57.trans ((Adv.of_ext e176).trans (x203.trans (x208.trans (hA214.trans (Adv.of_ext e362))))))))) Try.underlying26 rfl ?_
              refine s_lss rfl rfl rfl ?_
              refine Reg.nil ?_
              refine cw_cond rfl (fun hc382 => ?_) (fun hc382 => ?_)
              ·replace h := cdT hc382 h
               refine cw_seq (cw_regF ?_)
               refine s_as rfl rfl ?_
               refine Reg.nil ?_
               refine cw_ret ?_
               obtain rfl := Option.some.inj h
               refine fin1 Try.results7 rfl ?_
               exact ⟨rfl, hI365.kp⟩
              ·replace h := cdF hc382 h
               refine cw_skip (cw_seq (cw_seq (cw_regF ?_)))
               refine s_mv rfl rfl ?_
               refine s_lenO rfl (hI365.ownAt 1 rfl) Try.underlying26 rfl ?_
               refine s_mv rfl rfl ?_
               refine Reg.nil ?_
               obtain ⟨j383, h384, h⟩ := bnd h
               refine cw_sub (L := [(16, _), (243, _), (244, _), (9, _), (13, _), (14, _), (17, _)]) (Sub.cons rfl (Sub.cons rfl (Sub.cons rfl (Sub.cons rfl (Sub.cons rfl (Sub.cons rfl (Sub.cons rfl (Sub.nil _)))))))) ?_
               refine cw_unitD 3 (ι := Unit) (fun _ => []) (fun _ => fun w385 => Hp w [] M [ownR [] (intE .i64) 3 v205 x211, ownR [] (intE .i64) 3 v53 x52, ownR [] (intE .i64) 3 v46 x54] w385 ∧ Adv (mm [ownR [] (intE .i64) 3 v205 x211, ownR [] (intE .i64) 3 v53 x52, ownR [] (intE .i64) 3 v46 x54] M) (mm [ownR [] (intE .i64) 3 v205 x211, ownR [] (intE .i64) 3 v53 x52, ownR [] (intE .i64) 3 v46 x54] M) w361 w385 ∧ (.inl ()) = j383) ?_ ?_
               ·skip
                refine cw_block ?_
                refine cw_sub (L := [(244, _), (9, _), (13, _), (14, _), (16, _), (17, _), (243, _)]) (Sub.cons rfl (Sub.cons rfl (Sub.cons rfl (Sub.cons rfl (Sub.cons rfl (Sub.cons rfl (Sub.cons rfl (Sub.nil _)))))))) ?_
                refine cw_loopM 1 (ι := Int) _ (fun x388 => [(244, Value.int .i64 x388)]) (fun x388 => x388) (fun x388 => fun w390 => Hp w [] M [ownR [] (intE .i64) 3 v205 x211, ownR [] (intE .i64) 3 v53 x52, ownR [] (intE .i64) 3 v46 x54] w390 ∧ Adv (mm [ownR [] (intE .i64) 3 v205 x211, ownR [] (intE .i64) 3 v53 x52, ownR [] (intE .i64) 3 v46 x54] M) (mm [ownR [] (intE .i64) 3 v205 x211, ownR [] (intE .i64) 3 v53 x52, ownR [] (intE .i64) 3 v46 x54] M) w361 w390 ∧ InK .i64 x388) 0 h384 ⟨hI365, (Adv.refl _ _), (by decide)⟩ (Sub.cons rfl (Sub.cons rfl (Sub.cons rfl (Sub.cons rfl (Sub.cons rfl (Sub.cons rfl (Sub.cons rfl (Sub.nil _)))))))) ?_
                rintro x388 w390 ⟨hI391, hA392, r389⟩ y393 h394 hR395
                refine cw_seq (cw_regF ?_)
                refine s_lss rfl rfl rfl ?_
                refine Reg.nil ?_
                refine cw_seq ?_
                refine cw_cond rfl (fun hc396 => ?_) (fun hc396 => ?_)
                ·replace h394 := cdT hc396 h394
                 refine cw_skip ?_
                 refine cw_seq ?_
                 refine cw_block ?_
                 refine cw_seq (cw_regF ?_)
                 refine s_mv rfl rfl ?_
                 refine s_as rfl rfl ?_
                 refine Reg.nil ?_
                 refine cw_seq ?_
                 refine cw_regT fol (by kernel_rfl) ?_
                 refine s_mv rfl rfl ?_
                 refine s_mv rfl rfl ?_
                 obtain ⟨y397, hy397, h394⟩ := bnd h394
                 refine y_ia 1 hI391 rfl rfl rfl hy397 Try.underlying26 Try.sizeOf3 rfl ?_
                 intro g398 cs399 hg400 hR401 hC402
                 have khR401 := hR401
                 obtain ⟨rfl, r403⟩ := hR401
                 refine s_ld rfl (hC402.at 0 rfl) Try.isAgg3 rfl ?_
                 refine s_mv rfl rfl ?_
                 refine s_mv rfl rfl ?_
                 obtain ⟨y404, hy404, h394⟩ := bnd h394
                 refine p_ia rfl rfl (hf35.adv (x44.trans (x49.trans (hA57.trans ((Adv.of_ext e176).trans (x203.trans (x208.trans (hA214.trans ((Adv.of_ext e362).trans hA392))))))))) hy404 Try.underlying26 Try.sizeOf3 rfl ?_
                 intro b405 o406 cs407 hR408 hC409
                 obtain ⟨rfl, r410⟩ := hR408
                 refine s_ld rfl (hC409.cells.at 0 rfl) Try.isAgg3 rfl ?_
                 refine s_neq rfl rfl rfl ?_
                 refine Reg.nilq (fun w411 e412 => ?_)
                 have hI413 := hI391.ext e412
                 refine cw_cond rfl (fun hc414 => ?_) (fun hc414 => ?_)
                 ·replace h394 := cdT hc414 h394
                  obtain ⟨j415, h416, h394⟩ := bnd h394
                  refine cw_sub (L := [(9, _), (13, _), (16, _), (29, _)]) (Sub.cons rfl (Sub.cons rfl (Sub.cons rfl (Sub.cons rfl (Sub.nil _))))) ?_
                  refine cw_seqD 4 (ι := Bool) (fun x417 => [(8, Value.bool x417)]) (fun x417 => fun w418 => Hp w [] M [ownR [] (intE .i64) 3 v205 x211, ownR [] (intE .i64) 3 v53 x52, ownR [] (intE .i64) 3 v46 x54] w418 ∧ Adv (mm [ownR [] (intE .i64) 3 v205 x211, ownR [] (intE .i64) 3 v53 x52, ownR [] (intE .i64) 3 v46 x54] M) (mm [ownR [] (intE .i64) 3 v205 x211, ownR [] (intE .i64) 3 v53 x52, ownR [] (intE .i64) 3 v46 x54] M) w411 w418 ∧ x417 = j415) ?_ ?_
                  ·skip
                   refine cw_regT fol (by kernel_rfl) ?_
                   refine s_mv rfl rfl ?_
                   refine s_mv rfl rfl ?_
                   refine Reg.gsplit (t := 257) rfl (fun hg421 => ?_) (fun hg421 => ?_)
                   ·replace h416 := cdT hg421 h416
                    refine Reg.take rfl rfl ?_
                    refine s_mv rfl rfl ?_
                    refine Reg.take rfl rfl ?_
                    refine s_mv rfl rfl ?_
                    refine Reg.take rfl rfl ?_
                    obtain ⟨y422, hy422, h416⟩ := bnd h416
                    refine p_ia rfl rfl (hf35.adv (x44.trans (x49.trans (hA57.trans ((Adv.of_ext e176).trans (x203.trans (x208.trans (hA214.trans ((Adv.of_ext e362).trans (hA392.trans (Adv.of_ext e412))))))))))) hy422 Try.underlying26 Try.sizeOf3 rfl ?_
                    intro b423 o424 cs425 hR426 hC427
                    obtain ⟨rfl, r428⟩ := hR426
                    refine Reg.take rfl rfl ?_
                    refine s_ld rfl (hC427.cells.at 0 rfl) Try.isAgg3 rfl ?_
                    refine Reg.take rfl rfl ?_
                    refine s_mv rfl rfl ?_
                    refine Reg.take rfl rfl ?_
                    refine s_mv rfl rfl ?_
                    refine Reg.take rfl rfl ?_
                    obtain ⟨y429, hy429, h416⟩ := bnd h416
                    refine y_ia 1 hI413 rfl rfl rfl hy429 Try.underlying26 Try.sizeOf3 rfl ?_
                    intro g430 cs431 hg432 hR433 hC434
                    have khR433 := hR433
                    obtain ⟨rfl, r435⟩ := hR433
                    refine Reg.take rfl rfl ?_
                    refine s_ld rfl (hC434.at 0 rfl) Try.isAgg3 rfl ?_
                    refine Reg.take rfl rfl ?_
                    refine s_lss rfl rfl rfl ?_
                    refine s_pkT rfl rfl rfl ?_
                    refine s_as rfl rfl ?_
                    refine Reg.nilq (fun w436 e437 => ?_)
                    have hI438 := hI413.ext e437
                    obtain rfl := Option.some.inj h416
                    refine ⟨rfl, decide (y422 < y429), ⟨hI438, (Adv.of_ext e437), rfl⟩, Sub.cons rfl (Sub.nil _)⟩
                   ·replace h416 := cdF hg421 h416
                    refine Reg.pass rfl rfl rfl rfl ?_
                    refine Reg.pass rfl rfl rfl rfl ?_
                    refine Reg.pass rfl rfl rfl rfl ?_
                    refine Reg.pass rfl rfl rfl rfl ?_
                    refine Reg.pass rfl rfl rfl rfl ?_
                    refine Reg.pass rfl rfl rfl rfl ?_
                    refine Reg.pass rfl rfl rfl rfl ?_
                    refine Reg.pass rfl rfl rfl rfl ?_
                    refine Reg.pass rfl rfl rfl rfl ?_
                    refine s_pkF rfl rfl rfl ?_
                    refine s_as rfl rfl ?_
                    refine Reg.nilq (fun w439 e440 => ?_)
                    have hI441 := hI413.ext e440
                    obtain rfl := Option.some.inj h416
                    refine ⟨rfl, false, ⟨hI441, (Adv.of_ext e440), rfl⟩, Sub.cons rfl (Sub.nil _)⟩
                  ·skip
                   rintro x417 w418 ⟨hI419, hA420, rfl⟩
                   refine cw_ret ?_
                   obtain rfl := Option.some.inj h394
                   obtain rfl := hR395 _ rfl
                   replace h := elimR h
                   obtain rfl := Option.some.inj h
                   refine fin1 Try.results7 rfl ?_
                   exact ⟨rfl, hI419.kp⟩
                 ·replace h394 := cdF hc414 h394
                  refine cw_skip ?_
                  refine cw_regF ?_
                  obtain ⟨n442, hn442, h394⟩ := bnd h394
                  replace hn442 := chk_out hn442
                  refine p_add rfl rfl rfl hn442 ?_
                  refine s_mv rfl rfl ?_
                  refine Reg.nil ?_
                  obtain rfl := Option.some.inj h394
                  refine ⟨rfl, n442, ⟨⟨hI413, (hA392.trans (Adv.of_ext e412)), hn442.2⟩, rfl⟩, Sub.cons rfl (Sub.cons rfl (Sub.cons rfl (Sub.cons rfl (Sub.cons rfl (Sub.cons rfl (Sub.cons rfl (Sub.nil _)))))))⟩
                ·replace h394 := cdF hc396 h394
                 refine cw_exit ?_
                 refine exB_same ?_
                 obtain rfl := Option.some.inj h394
                 obtain rfl := hR395 _ rfl
                 refine ⟨rfl, (), ⟨hI391, hA392, rfl⟩, Sub.cons rfl (Sub.cons rfl (Sub.cons rfl (Sub.cons rfl (Sub.nil _))))⟩
               ·skip
                rintro _ w385 ⟨hI386, hA387, rfl⟩
                replace h := elimL h
                refine cw_seq (cw_seq (cw_regF ?_))
                refine s_mv rfl rfl ?_
                refine s_len rfl (hf35.adv (x44.trans (x49.trans (hA57.trans ((Adv.of_ext e176).trans (x203.trans (x208.trans (hA214.trans ((Adv.of_ext e362).trans hA387))))))))) Try.underlying26 rfl ?_
                refine s_mv rfl rfl ?_
                refine Reg.nil ?_
                obtain ⟨j443, h444, h⟩ := bnd h
                refine cw_sub (L := [(14, _), (17, _), (269, _), (270, _), (271, _), (9, _)]) (Sub.cons rfl (Sub.cons rfl (Sub.cons rfl (Sub.cons rfl (Sub.cons rfl (Sub.cons rfl (Sub.nil _))))))) ?_
                refine cw_unitD 5 (ι := Unit) (fun _ => []) (fun _ => fun w445 => Hp w [] M [ownR [] (intE .i64) 3 v205 x211, ownR [] (intE .i64) 3 v53 x52, ownR [] (intE .i64) 3 v46 x54] w445 ∧ Adv (mm [ownR [] (intE .i64) 3 v205 x211, ownR [] (intE .i64) 3 v53 x52, ownR [] (intE .i64) 3 v46 x54] M) (mm [ownR [] (intE .i64) 3 v205 x211, ownR [] (intE .i64) 3 v53 x52, ownR [] (intE .i64) 3 v46 x54] M) w385 w445 ∧ (.inl ()) = j443) ?_ ?_
                ·skip
                 refine cw_block ?_
                 refine cw_sub (L := [(271, _), (9, _), (14, _), (17, _), (269, _), (270, _)]) (Sub.cons rfl (Sub.cons rfl (Sub.cons rfl (Sub.cons rfl (Sub.cons rfl (Sub.cons rfl (Sub.nil _))))))) ?_
                 refine cw_loopM 1 (ι := Int) _ (fun x448 => [(271, Value.int .i64 x448)]) (fun x448 => x448) (fun x448 => fun w450 => Hp w [] M [ownR [] (intE .i64) 3 v205 x211, ownR [] (intE .i64) 3 v53 x52, ownR [] (intE .i64) 3 v46 x54] w450 ∧ Adv (mm [ownR [] (intE .i64) 3 v205 x211, ownR [] (intE .i64) 3 v53 x52, ownR [] (intE .i64) 3 v46 x54] M) (mm [ownR [] (intE .i64) 3 v205 x211, ownR [] (intE .i64) 3 v53 x52, ownR [] (intE .i64) 3 v46 x54] M) w385 w450 ∧ InK .i64 x448) 0 h444 ⟨hI386, (Adv.refl _ _), (by decide)⟩ (Sub.cons rfl (Sub.cons rfl (Sub.cons rfl (Sub.cons rfl (Sub.cons rfl (Sub.cons rfl (Sub.nil _))))))) ?_
                 rintro x448 w450 ⟨hI451, hA452, r449⟩ y453 h454 hR455
                 refine cw_seq (cw_regF ?_)
                 refine s_lss rfl rfl rfl ?_
                 refine Reg.nil ?_
                 refine cw_seq ?_
                 refine cw_cond rfl (fun hc456 => ?_) (fun hc456 => ?_)
                 ·replace h454 := cdT hc456 h454
                  refine cw_skip ?_
                  refine cw_seq ?_
                  refine cw_block ?_
                  refine cw_seq (cw_regF ?_)
                  refine s_mv rfl rfl ?_
                  obtain ⟨y457, hy457, h454⟩ := bnd h454
                  refine p_ia rfl rfl (hf35.adv (x44.trans (x49.trans (hA57.trans ((Adv.of_ext e176).trans (x203.trans (x208.trans (hA214.trans ((Adv.of_ext e362).trans (hA387.trans hA452)))))))))) hy457 Try.underlying26 Try.sizeOf3 rfl ?_
                  intro b458 o459 cs460 hR461 hC462
                  obtain ⟨rfl, r463⟩ := hR461
                  refine s_ld rfl (hC462.cells.at 0 rfl) Try.isAgg3 rfl ?_
                  refine s_as rfl rfl ?_
                  refine s_as rfl rfl ?_
                  refine Reg.nil ?_
                  refine cw_seq ?_
                  refine cw_regT fol (by kernel_rfl) ?_
                  refine s_mv rfl rfl ?_
                  refine s_mv rfl rfl ?_
                  obtain ⟨y464, hy464, h454⟩ := bnd h454
                  refine y_ia 2 hI451 rfl rfl rfl hy464 Try.underlying26 Try.sizeOf3 rfl ?_
                  intro g465 cs466 hg467 hR468 hC469
                  have khR468 := hR468
                  obtain ⟨rfl, r470⟩ := hR468
                  refine s_ld rfl (hC469.at 0 rfl) Try.isAgg3 rfl ?_
                  refine s_mv rfl rfl ?_
                  refine s_mv rfl rfl ?_
                  obtain ⟨y471, hy471, h454⟩ := bnd h454
                  refine p_ia rfl rfl (hf37.adv (x44.trans (x49.trans (hA57.trans ((Adv.of_ext e176).trans (x203.trans (x208.trans (hA214.trans ((Adv.of_ext e362).trans (hA387.trans hA452)))))))))) hy471 Try.underlying26 Try.sizeOf3 rfl ?_
                  intro b472 o473 cs474 hR475 hC476
                  obtain ⟨rfl, r477⟩ := hR475
                  refine s_ld rfl (hC476.cells.at 0 rfl) Try.isAgg3 rfl ?_
                  refine s_neq rfl rfl rfl ?_
                  refine Reg.nilq (fun w478 e479 => ?_)
                  have hI480 := hI451.ext e479
                  refine cw_cond rfl (fun hc481 => ?_) (fun hc481 => ?_)
                  ·replace h454 := cdT hc481 h454
                   obtain ⟨j482, h483, h454⟩ := bnd h454
                   refine cw_sub (L := [(9, _), (14, _), (17, _), (30, _), (31, _)]) (Sub.cons rfl (Sub.cons rfl (Sub.cons rfl (Sub.cons rfl (Sub.cons rfl (Sub.nil _)))))) ?_
                   refine cw_seqD 5 (ι := Bool) (fun x484 => [(8, Value.bool x484)]) (fun x484 => fun w485 => Hp w [] M [ownR [] (intE .i64) 3 v205 x211, ownR [] (intE .i64) 3 v53 x52, ownR [] (intE .i64) 3 v46 x54] w485 ∧ Adv (mm [ownR [] (intE .i64) 3 v205 x211, ownR [] (intE .i64) 3 v53 x52, ownR [] (intE .i64) 3 v46 x54] M) (mm [ownR [] (intE .i64) 3 v205 x211, ownR [] (intE .i64) 3 v53 x52, ownR [] (intE .i64) 3 v46 x54] M) w478 w485 ∧ x484 = j482) ?_ ?_
                   ·skip
                    refine cw_regT fol (by kernel_rfl) ?_
                    refine s_mv rfl rfl ?_
                    refine s_mv rfl rfl ?_
                    refine Reg.gsplit (t := 286) rfl (fun hg488 => ?_) (fun hg488 => ?_)
                    ·replace h483 := cdT hg488 h483
                     refine Reg.take rfl rfl ?_
                     refine s_mv rfl rfl ?_
                     refine Reg.take rfl rfl ?_
                     refine s_mv rfl rfl ?_
                     refine Reg.take rfl rfl ?_
                     obtain ⟨y489, hy489, h483⟩ := bnd h483
                     refine p_ia rfl rfl (hf37.adv (x44.trans (x49.trans (hA57.trans ((Adv.of_ext e176).trans (x203.trans (x208.trans (hA214.trans ((Adv.of_ext e362).trans (hA387.trans (hA452.trans (Adv.of_ext e479)))))))))))) hy489 Try.underlying26 Try.sizeOf3 rfl ?_
                     intro b490 o491 cs492 hR493 hC494
                     obtain ⟨rfl, r495⟩ := hR493
                     refine Reg.take rfl rfl ?_
                     refine s_ld rfl (hC494.cells.at 0 rfl) Try.isAgg3 rfl ?_
                     refine Reg.take rfl rfl ?_
                     refine s_mv rfl rfl ?_
                     refine Reg.take rfl rfl ?_
                     refine s_mv rfl rfl ?_
                     refine Reg.take rfl rfl ?_
                     obtain ⟨y496, hy496, h483⟩ := bnd h483
                     refine y_ia 2 hI480 rfl rfl rfl hy496 Try.underlying26 Try.sizeOf3 rfl ?_
                     intro g497 cs498 hg499 hR500 hC501
                     have khR500 := hR500
                     obtain ⟨rfl, r502⟩ := hR500
                     refine Reg.take rfl rfl ?_
                     refine s_ld rfl (hC501.at 0 rfl) Try.isAgg3 rfl ?_
                     refine Reg.take rfl rfl ?_
                     refine s_lss rfl rfl rfl ?_
                     refine s_pkT rfl rfl rfl ?_
                     refine s_as rfl rfl ?_
                     refine Reg.nilq (fun w503 e504 => ?_)
                     have hI505 := hI480.ext e504
                     obtain rfl := Option.some.inj h483
                     refine ⟨rfl, decide (y489 < y496), ⟨hI505, (Adv.of_ext e504), rfl⟩, Sub.cons rfl (Sub.nil _)⟩
                    ·replace h483 := cdF hg488 h483
                     refine Reg.pass rfl rfl rfl rfl ?_
                     refine Reg.pass rfl rfl rfl rfl ?_
                     refine Reg.pass rfl rfl rfl rfl ?_
                     refine Reg.pass rfl rfl rfl rfl ?_
                     refine Reg.pass rfl rfl rfl rfl ?_
                     refine Reg.pass rfl rfl rfl rfl ?_
                     refine Reg.pass rfl rfl rfl rfl ?_
                     refine Reg.pass rfl rfl rfl rfl ?_
                     refine Reg.pass rfl rfl rfl rfl ?_
                     refine s_pkF rfl rfl rfl ?_
                     refine s_as rfl rfl ?_
                     refine Reg.nilq (fun w506 e507 => ?_)
                     have hI508 := hI480.ext e507
                     obtain rfl := Option.some.inj h483
                     refine ⟨rfl, false, ⟨hI508, (Adv.of_ext e507), rfl⟩, Sub.cons rfl (Sub.nil _)⟩
                   ·skip
                    rintro x484 w485 ⟨hI486, hA487, rfl⟩
                    refine cw_ret ?_
                    obtain rfl := Option.some.inj h454
                    obtain rfl := hR455 _ rfl
                    replace h := elimR h
                    obtain rfl := Option.some.inj h
                    refine fin1 Try.results7 rfl ?_
                    exact ⟨rfl, hI486.kp⟩
                  ·replace h454 := cdF hc481 h454
                   refine cw_skip ?_
                   refine cw_regF ?_
                   obtain ⟨n509, hn509, h454⟩ := bnd h454
                   replace hn509 := chk_out hn509
                   refine p_add rfl rfl rfl hn509 ?_
                   refine s_mv rfl rfl ?_
                   refine Reg.nil ?_
                   obtain rfl := Option.some.inj h454
                   refine ⟨rfl, n509, ⟨⟨hI480, (hA452.trans (Adv.of_ext e479)), hn509.2⟩, rfl⟩, Sub.cons rfl (Sub.cons rfl (Sub.cons rfl (Sub.cons rfl (Sub.cons rfl (Sub.cons rfl (Sub.nil _))))))⟩
                 ·replace h454 := cdF hc456 h454
                  refine cw_exit ?_
                  refine exB_same ?_
                  obtain rfl := Option.some.inj h454
                  obtain rfl := hR455 _ rfl
                  refine ⟨rfl, (), ⟨hI451, hA452, rfl⟩, Sub.cons rfl (Sub.nil _)⟩
                ·skip
                 rintro _ w445 ⟨hI446, hA447, rfl⟩
                 replace h := elimL h
                 refine cw_seq (cw_regF ?_)
                 refine s_mv rfl rfl ?_
                 refine s_as rfl rfl ?_
                 refine Reg.nil ?_
                 refine cw_ret ?_
                 obtain rfl := Option.some.inj h
                 refine fin1 Try.results7 rfl ?_
                 exact ⟨rfl, hI446.kp⟩
end Go.Proofs.Ytecmlmngcnionaa
namespace Go.Proofs.Ytecmlmngcnionaa
open Go Go.Sx
namespace S
theorem tsOf_succ (n : Nat) (f : Nat → Bool) : tsOf (n + 1) f = if f n = true then tsOf n f ++ [n] else tsOf n f := by
  unfold tsOf
  rw [List.range_succ, List.filter_append]
  by_cases h : f n = true
  · rw [if_pos h, List.filter_cons_of_pos h]; rfl
  · rw [if_neg h, List.filter_cons_of_neg h]; simp
theorem lsOf_succ (n : Nat) (f : Nat → Bool) : lsOf (n + 1) f = if f n = true then lsOf n f ++ [(n : Int)] else lsOf n f := by
  unfold lsOf
  rw [tsOf_succ]
  by_cases h : f n = true
  · rw [if_pos h, if_pos h, List.map_append]; rfl
  · rw [if_neg h, if_neg h]
theorem lsOf_len (n : Nat) (f : Nat → Bool) : (lsOf n f).length ≤ n := by
  unfold lsOf tsOf
  rw [List.length_map]
  have := List.length_filter_le f (List.range n)
  rw [List.length_range] at this; exact this
theorem lsOf_get {n : Nat} {f : Nat → Bool} {i t : Nat} (h : (tsOf n f)[i]? = some t) : (lsOf n f)[i]? = some (t : Int) := by
  unfold lsOf
  rw [List.getElem?_map, h]; rfl
theorem ls_len (n : Nat) (f : Nat → Bool) : (lsOf n f).length = (tsOf n f).length := by unfold lsOf; rw [List.length_map]
theorem choice_nil {x y : List Int} {f : Nat → Bool} (h : lsOf x.length f = []) (hy : Choice x f y) : y = x := by
  refine List.ext_getElem? fun j => ?_
  by_cases hj : j < x.length
  · have hx : x[j]? = some x[j] := List.getElem?_eq_getElem hj
    have hyj : y[j]? = some (y[j]'(by have := hy.1; omega)) := List.getElem?_eq_getElem (by have := hy.1; omega)
    have := hy.2 j _ _ hx hyj
    by_cases e : f j = true
    · have := lsOf_mem.2 ⟨hj, e⟩
      rw [h] at this; cases this
    · rw [if_neg e] at this
      rw [hyj, hx, this]
  · rw [List.getElem?_eq_none (by have := hy.1; omega), List.getElem?_eq_none (by omega)]
theorem Choice.ok {m : Model} {x y : List Int} {f : Nat → Bool} (hy : Choice x f y) (hx : valuesOk m x = true) : valuesOk m y = true := by
  obtain ⟨h1, h2⟩ := valuesOk_iff.1 hx
  refine valuesOk_iff.2 ⟨by have := hy.1; omega, fun j b hb => ?_⟩
  have hj := get_lt hb
  have ha : x[j]? = some (x[j]'(by have := hy.1; omega)) := List.getElem?_eq_getElem (by have := hy.1; omega)
  have h3 := hy.2 j _ _ ha hb
  have h4 := h2 j _ ha
  by_cases e : f j = true
  · rw [if_pos e] at h3; omega
  · rw [if_neg e] at h3; omega
theorem putAll_snoc : ∀ (n : Nat) (x : List Int) (ts : List Nat) (v : List Int) {t : Nat} {b : Int}, ts[n]? = some t → v[n]? = some b → putAll x (ts.take (n + 1)) (v.take (n + 1)) = (putAll x (ts.take n) (v.take n)).set t b
  | _, _, [], _, _, _, h, _ => by simp at h
  | _, _, _ :: _, [], _, _, _, h => by simp at h
  | 0, x, a :: ts, c :: v, t, b, h1, h2 => by
    simp at h1 h2
    subst h1 h2
    simp [putAll]
  | n + 1, x, a :: ts, c :: v, t, b, h1, h2 => by
    rw [List.take_succ_cons, List.take_succ_cons, List.take_succ_cons, List.take_succ_cons, putAll, putAll]
    exact putAll_snoc n (x.set a c) ts v (by simpa using h1) (by simpa using h2)
section
variable {m : Model} {x : List Int}
/-- What is so of the first set that is found. -/
structure First (m : Model) (x : List Int) (g : Nat → Bool) (v : List Int) : Prop where
  len : v.length = (tsOf x.length g).length
  ch : Choice x g (putAll x (tsOf x.length g) v)
  flips : enB m (score m (putAll x (tsOf x.length g) v)) ≠ enB m (score m x)
  bd : ∀ (i : Nat) z, v[i]? = some z → 0 ≤ z ∧ z ≤ 1000000
  least : ∀ y, Choice x g y → enB m (score m y) ≠ enB m (score m x) → ∀ w : List Int, w.length = (tsOf x.length g).length → (∀ (i t : Nat), (tsOf x.length g)[i]? = some t → w[i]? = y[t]?) → lexc v w ≤ 0
  first : ∀ f y, Choice x f y → enB m (score m y) ≠ enB m (score m x) → setc (lsOf x.length g) (lsOf x.length f) ≤ 0
  ne : lsOf x.length g ≠ []
theorem first_of (hm : modelOk m = true) (hl : (x.length : Int) = m.traits) {l : List Int} (h : (setsS x.length).find? (fun l => (tryR m x l).1) = some l) : ∃ g, l = lsOf x.length g ∧ First m x g (tryR m x l).2 := by
  have ht := (modelOk_iff.1 hm).2.1
  have hmem := List.mem_of_find?_eq_some h
  have hp : (tryR m x l).1 = true := List.find?_some (p := fun l => (tryR m x l).1) h
  obtain ⟨g, rfl⟩ := sets_form hmem
  obtain ⟨h1, h2, h3, h4, h5⟩ := tryR_some hm hl hp
  refine ⟨g, rfl, h1, h2, h3, h4, h5, fun f y hy hne => ?_, (setsS_mem hmem).2.2⟩
  have hnn : lsOf x.length f ≠ [] := fun e => hne (by rw [choice_nil e hy])
  have hin := lsOf_sets (n := x.length) (by omega) f hnn
  have htr : (tryR m x (lsOf x.length f)).1 = true := by
    cases hb : (tryR m x (lsOf x.length f)).1 with
    | true => rfl
    | false => exact absurd (tryR_none hm hl hb hy) hne
  rcases find_first (sets_asc x.length) h hin htr with e | e
  · rw [← e]; have := setc_anti (lsOf x.length g) (lsOf x.length g); omega
  · exact e
theorem First.fresh {g : Nat → Bool} {v : List Int} (h : First m x g v) {i t : Nat} {z a : Int} (ht : (tsOf x.length g)[i]? = some t) (hz : v[i]? = some z) (ha : x[t]? = some a) : z ≠ a := by
  intro e
  subst e
  have hg := ts_get ht
  let g' : Nat → Bool := fun j => g j && decide (j ≠ t)
  have hc : Choice x g' (putAll x (tsOf x.length g) v) := by
    refine ⟨h.ch.1, fun j a b hxa hb => ?_⟩
    have := h.ch.2 j a b hxa hb
    by_cases e : j = t
    · subst e
      rw [if_neg (by simp [g'])]
      rw [putAll_at (tsOf_asc ..) h.len (fun t ht => (tsOf_mem.1 ht).1) ht, hz] at hb
      rw [ha] at hxa
      rw [← Option.some.inj hb, ← Option.some.inj hxa]
    · by_cases e2 : g j = true
      · rw [if_pos e2] at this
        rw [if_pos (by simp [g', e, e2])]; exact this
      · rw [if_neg e2] at this
        rw [if_neg (by simp [g', e2])]; exact this
  have h1 := h.first g' _ hc h.flips
  have hlt : (tsOf x.length g').length < (tsOf x.length g).length := by
    have e : tsOf x.length g' = (tsOf x.length g).filter fun j => decide (j ≠ t) := by
      unfold tsOf
      rw [List.filter_filter]
      refine List.filter_congr fun j _ => ?_
      simp [g', Bool.and_comm]
    rw [e, List.length_filter_lt_length_iff_exists]
    exact ⟨t, tsOf_mem.2 hg, by simp⟩
  unfold setc at h1
  rw [ls_len, ls_len, if_neg (by omega)] at h1
  omega
end
theorem enB_is (m : Model) (n : Int) : decide (1000 * m.need ≤ n) = enB m n := by unfold enB; rw [Int.mul_comm]
def fW (set : Int) (j : Nat) : Bool := decide (andI .u8 (set.fdiv (2 ^ min j IntKind.u8.bits)) 1 = 1)
theorem p_ScoreWhy (m : Model) (x : List Int) (set : Int) (by_ : List Int) (hset : 0 ≤ set ∧ set ≤ 255) (hby : U32 by_) : P.law06_ScoreWhy m x set by_ = some true := by
  apply Ret.yes
  unfold P.law06_ScoreWhy
  rw [show (Model.mk m.traits m.cards m.trees m.need) = m from rfl]
  refine Ret.bind (Ret.val p_alive (Ret.condF rfl (Ret.bind (r_ready (fun hs hm hx => ?_) (Ret.condT rfl (Ret.ok rfl))))))
  refine Ret.condF rfl ?_
  obtain ⟨hl, hv⟩ := valuesOk_iff.1 hx
  have ht := (modelOk_iff.1 hm).2.1
  refine Ret.bind (r_Score hs hm hx ?_)
  dsimp only
  refine Ret.bind (Ret.val (p_SReasons m x hs (by omega)) ?_)
  generalize hR : reasonsS m x = R
  obtain ⟨tr, vs, er⟩ := R
  dsimp only
  refine Ret.condF (by simp) (Ret.bind (Ret.appo (by simp; omega) (by simp; omega) ?_))
  rw [List.nil_append, enB_is]
  refine Ret.bind (Ret.loop (fun t : List Int × Int × List Int => ∃ n : Nat, t.2.1 = n ∧ n ≤ x.length ∧ t.1 = lsOf n (fW set) ∧ t.2.2.length = x.length ∧ ∀ (j : Nat) a b, x[j]? = some a → t.2.2[j]? = some b → if fW set j = true ∧ j < n then 0 ≤ b ∧ b ≤ 1000000 else b = a) (fun t => x.length - t.2.1.toNat) ⟨0, rfl, Nat.zero_le _, rfl, rfl, fun j a b ha hb => ?_⟩ ?_)
  · rw [if_neg (by omega)]
    dsimp only at hb
    rw [ha] at hb; cases hb; rfl
  rintro ⟨sm, _, y⟩ ⟨n, rfl, hn, hsm, hyl, hya⟩
  dsimp only at hsm hyl hya ⊢
  subst hsm
  have hsl := lsOf_len n (fW set)
  refine Ret.cond (fun h => ?_) fun h => ?_
  · have hlt : n < x.length := by have := of_decide_eq_true h; omega
    have hyn : y[n]? = some (y[n]'(by omega)) := List.getElem?_eq_getElem (by omega)
    have hsh : shrO set (n : Int) IntKind.u8.bits = some (set.fdiv (2 ^ min n IntKind.u8.bits)) := by
      unfold shrO
      rw [if_pos (by omega), Int.toNat_natCast]
    refine Ret.bind (Ret.bind (Ret.val hsh (Ret.bind (Ret.cond (fun h1 => ?_) fun h1 => ?_))))
    · have hf : fW set n = true := h1
      have hstep : ∀ (y' : List Int) z, 0 ≤ z → z ≤ 1000000 → y' = y.set n z → y'.length = x.length ∧ ∀ (j : Nat) a b, x[j]? = some a → y'[j]? = some b → if fW set j = true ∧ j < n + 1 then 0 ≤ b ∧ b ≤ 1000000 else b = a := fun y' z hz0 hz1 e => by
        subst e
        refine ⟨by rw [List.length_set]; exact hyl, fun j a b ha hb => ?_⟩
        rw [List.getElem?_set] at hb
        by_cases e : n = j
        · subst e
          rw [if_pos rfl, if_pos (by omega)] at hb
          cases hb
          rw [if_pos ⟨hf, by omega⟩]; exact ⟨hz0, hz1⟩
        · rw [if_neg e] at hb
          have := hya j a b ha hb
          by_cases e2 : fW set j = true ∧ j < n
          · rw [if_pos e2] at this
            rw [if_pos ⟨e2.1, by omega⟩]; exact this
          · rw [if_neg e2] at this
            rw [if_neg fun h => e2 ⟨h.1, by omega⟩]; exact this
      have hL : ∀ c ∈ stepsS m n (Span.mk 0 1000000), 0 ≤ c ∧ c ≤ 1000000 := fun c hc => steps_bd (by decide) hc
      have hL0 : 0 < (stepsS m n (Span.mk 0 1000000)).length := List.length_pos_of_mem (((stepsS_good m n (Span.mk 0 1000000)).2 0).2 (.inl rfl))
      refine Ret.bind (Ret.appo (by simp only [List.length_singleton]; omega) (by simp only [List.length_singleton]; omega) (Ret.bind (r_Steps hm (by omega) ?_)))
      generalize stepsS m n (Span.mk 0 1000000) = L at hL hL0
      refine Ret.bind (Ret.chk (by omega) (Ret.bind (r_at hby (by omega) fun z1 z10 z11 => ?_)))
      have m1 := mod_in z10 (show 0 < (L.length : Int) by omega)
      refine Ret.bind (Ret.chk (by omega) (Ret.bind (Ret.remO z10 (by omega) (Ret.bind (Ret.ixoI m1.1 m1.2 fun c hc => ?_)))))
      have hcb := hL c (List.mem_of_getElem? hc)
      refine Ret.bind (Ret.ixo hyn (Ret.bind (Ret.seto (by omega) (Ret.bind (Ret.chk (by omega) (Ret.bind (Ret.chk (by omega) (Ret.bind (r_at hby (by omega) fun z2 z20 z21 => ?_)))))))))
      have hls : lsOf n (fW set) ++ [(n : Int)] = lsOf (n + 1) (fW set) := by rw [lsOf_succ, if_pos hf]
      rw [hls]
      refine Ret.bind (Ret.remO z20 (by omega) (Ret.bind (Ret.cond (fun h2 => ?_) fun h2 => ?_)))
      · refine Ret.bind (Ret.chk (by omega) (Ret.bind (r_at hby (by omega) fun z3 z30 z31 => ?_)))
        have m3 := mod_in z30 (show (0 : Int) < 1000001 by omega)
        have hyn2 : (y.set n c)[n]? = some c := List.getElem?_set_self (by omega)
        refine Ret.bind (Ret.chk (by omega) (Ret.bind (Ret.remO z30 (by omega) (Ret.bind (Ret.ixo hyn2 (Ret.bind (Ret.seto (by rw [List.length_set]; omega) (Ret.ok (Ret.ok (Ret.ok ?_))))))))))
        obtain ⟨e1, e2⟩ := hstep _ (z3 % 1000001) (by omega) (by omega) (List.set_set ..)
        refine Ret.bind (Ret.chk (by omega) (Ret.next ⟨⟨n + 1, rfl, hlt, rfl, e1, e2⟩, ?_⟩))
        simp only; omega
      · obtain ⟨e1, e2⟩ := hstep _ c (by omega) (by omega) rfl
        refine Ret.ok (Ret.ok (Ret.ok (Ret.bind (Ret.chk (by omega) (Ret.next ⟨⟨n + 1, rfl, hlt, rfl, e1, e2⟩, ?_⟩)))))
        simp only; omega
    · have hf : ¬ fW set n = true := by
        intro hh
        have : fW set n = false := h1
        rw [hh] at this; cases this
      have hls : lsOf n (fW set) = lsOf (n + 1) (fW set) := by rw [lsOf_succ, if_neg hf]
      refine Ret.ok (Ret.ok (Ret.bind (Ret.chk (by omega) (Ret.next ⟨⟨n + 1, rfl, hlt, hls, hyl, fun j a b ha hb => ?_⟩, ?_⟩))))
      · have := hya j a b ha hb
        by_cases e2 : fW set j = true ∧ j < n
        · rw [if_pos e2] at this
          rw [if_pos ⟨e2.1, by omega⟩]; exact this
        · rw [if_neg e2] at this
          rw [if_neg fun h => e2 ⟨h.1, ?_⟩]
          · exact this
          · have : j ≠ n := fun e => hf (e ▸ h.1)
            omega
      · simp only; omega
  · have hn2 : n = x.length := by have := of_decide_eq_false h; omega
    subst hn2
    refine Ret.done ?_
    dsimp only
    generalize hf : fW set = f at *
    have hy : Choice x f y := ⟨hyl, fun j a b ha hb => by
      have := hya j a b ha hb
      have hj := get_lt ha
      by_cases e : f j = true
      · rw [if_pos e]; rw [if_pos ⟨e, hj⟩] at this; exact this
      · rw [if_neg e]; rw [if_neg fun h => e h.1] at this; exact this⟩
    refine Ret.bind (r_Score hs hm (hy.ok hx) ?_)
    dsimp only
    rw [enB_is]
    refine Ret.condF (by simp) ?_
    have herr : err m x = 0 := by unfold err; simp [hm, hx]
    unfold reasonsS at hR
    rw [if_pos herr] at hR
    cases hF : (setsS x.length).find? (fun l => (tryR m x l).1) with
    | none =>
      rw [hF] at hR
      cases hR
      refine Ret.condT (by simp) (Ret.bind (Ret.condT rfl (Ret.condT (by simp) (Ret.condT (by simp) (Ret.condT (by simp) (Ret.ok (Ret.ok ?_)))))))
      have : enB m (score m y) = enB m (score m x) := by
        by_cases e : lsOf x.length f = []
        · rw [choice_nil e hy]
        · refine tryR_none hm hl ?_ hy
          have := List.find?_eq_none.1 hF _ (lsOf_sets (by omega) f e)
          simpa using this
      rw [this]; simp
    | some l =>
      rw [hF] at hR
      cases hR
      obtain ⟨g, rfl, hG⟩ := first_of hm hl hF
      generalize (tryR m x (lsOf x.length g)).2 = v at hG ⊢
      have hlg := lsOf_len x.length g
      have hgl := ls_len x.length g
      have hg0 : 0 < (lsOf x.length g).length := List.length_pos_iff.2 hG.ne
      have hvl := hG.len
      have hasc := tsOf_asc x.length g
      have hrange : ∀ t ∈ tsOf x.length g, t < x.length := fun t ht => (tsOf_mem.1 ht).1
      refine Ret.condF (by simp) (Ret.bind (Ret.condF (decide_eq_false (by omega)) (Ret.ok (Ret.condF ?_ ?_))))
      · rw [decide_eq_true (by omega)]; rfl
      refine Ret.bind (Ret.appo (by simp; omega) (by simp; omega) ?_)
      rw [List.nil_append]
      refine Ret.bind (Ret.loop (fun t : Int × List Int => ∃ n : Nat, t.1 = n ∧ n ≤ (lsOf x.length g).length ∧ t.2 = putAll x ((tsOf x.length g).take n) (v.take n)) (fun t => (lsOf x.length g).length - t.1.toNat) ⟨0, rfl, Nat.zero_le _, rfl⟩ ?_)
      · rintro ⟨_, z⟩ ⟨n, rfl, hn, hz⟩
        dsimp only at hz ⊢
        refine Ret.cond (fun h => ?_) fun h => ?_
        · have hlt : n < (lsOf x.length g).length := by have := of_decide_eq_true h; omega
          have htn : (tsOf x.length g)[n]? = some ((tsOf x.length g)[n]'(by omega)) := List.getElem?_eq_getElem (by omega)
          generalize (tsOf x.length g)[n]'(by omega) = t at htn
          have hln := lsOf_get htn
          have hvn : v[n]? = some (v[n]'(by omega)) := List.getElem?_eq_getElem (by omega)
          generalize v[n]'(by omega) = c at hvn
          have hcb := hG.bd n c hvn
          have htl := (ts_get htn).1
          have hxt : x[t]? = some x[t] := List.getElem?_eq_getElem htl
          have hfr := hG.fresh htn hvn hxt
          have hzl : z.length = x.length := by rw [hz]; exact putAll_len ..
          have hzt : z[t]? = some (z[t]'(by omega)) := List.getElem?_eq_getElem (by omega)
          refine Ret.bind (Ret.ixo hln ?_)
          have rest : Ret (Option.bind (ixo v (n : Int)) fun y237 => cond (decide (y237 < 0)) (some true) (Option.bind (ixo v (n : Int)) fun y248 => cond (decide (1000000 < y248)) (some true) (Option.bind (ixo v (n : Int)) fun y259 => Option.bind (ixo x (t : Int)) fun y266 => some (decide (y259 = y266))))) (fun b => b = false) :=
            Ret.bind (Ret.ixo hvn (Ret.condF (decide_eq_false (by omega)) (Ret.bind (Ret.ixo hvn (Ret.condF (decide_eq_false (by omega)) (Ret.bind (Ret.ixo hvn (Ret.bind (Ret.ixo hxt (Ret.ok (decide_eq_false hfr)))))))))))
          have chks : ∀ (Q : Bool → Prop), Q false → Ret (cond (decide ((t : Int) < 0)) (some true) (cond (decide ((x.length : Int) ≤ (t : Int))) (some true) (cond (decide (0 < (n : Int))) (Option.bind (chk .i64 ((n : Int) - 1)) fun n186 => Option.bind (ixo (lsOf x.length g) n186) fun y187 => cond (decide ((t : Int) ≤ y187)) (some true) (Option.bind (ixo v (n : Int)) fun y198 => cond (decide (y198 < 0)) (some true) (Option.bind (ixo v (n : Int)) fun y209 => cond (decide (1000000 < y209)) (some true) (Option.bind (ixo v (n : Int)) fun y220 => Option.bind (ixo x (t : Int)) fun y227 => some (decide (y220 = y227)))))) (Option.bind (ixo v (n : Int)) fun y237 => cond (decide (y237 < 0)) (some true) (Option.bind (ixo v (n : Int)) fun y248 => cond (decide (1000000 < y248)) (some true) (Option.bind (ixo v (n : Int)) fun y259 => Option.bind (ixo x (t : Int)) fun y266 => some (decide (y259 = y266)))))))) Q := fun Q hQ => by
            replace rest := rest.mono (Q' := Q) fun b hb => by rw [hb]; exact hQ
            refine Ret.condF (decide_eq_false (by omega)) (Ret.condF (decide_eq_false (by omega)) (Ret.cond (fun h1 => ?_) fun _ => rest))
            have h1 := of_decide_eq_true h1
            obtain ⟨k, rfl⟩ : ∃ k, n = k + 1 := ⟨n - 1, by omega⟩
            have htk : (tsOf x.length g)[k]? = some ((tsOf x.length g)[k]'(by omega)) := List.getElem?_eq_getElem (by omega)
            have hlk := lsOf_get htk
            have hlt2 : (tsOf x.length g)[k]'(by omega) < t := by
              have h7 := List.pairwise_iff_getElem.1 hasc k (k + 1) (by omega) (by omega) (by omega)
              have h8 : (tsOf x.length g)[k + 1]'(by omega) = t := by
                have := List.getElem?_eq_getElem (l := tsOf x.length g) (i := k + 1) (by omega)
                rw [htn] at this; exact (Option.some.inj this).symm
              rw [h8] at h7; exact h7
            have hk1 : ((k + 1 : Nat) : Int) - 1 = (k : Int) := by omega
            refine Ret.bind (Ret.chk (by omega) ?_)
            rw [hk1]
            exact Ret.bind (Ret.ixo hlk (Ret.condF (decide_eq_false (by omega)) rest))
          refine Ret.bind (chks _ ?_)
          refine Ret.condF rfl (Ret.bind (Ret.ixo hvn (Ret.bind (Ret.ixo hzt (Ret.bind (Ret.seto (by omega) (Ret.bind (Ret.chk (by omega) (Ret.next ⟨⟨n + 1, rfl, hlt, ?_⟩, ?_⟩)))))))))
          · dsimp only
            rw [putAll_snoc n x _ v htn hvn, hz]
          · simp only; omega
        · have hn2 : n = (lsOf x.length g).length := by have := of_decide_eq_false h; omega
          subst hn2
          rw [List.take_of_length_le (by omega), List.take_of_length_le (by omega)] at hz
          subst hz
          refine Ret.done (Ret.elimL ?_)
          refine Ret.bind (r_Score hs hm (hG.ch.ok hx) ?_)
          dsimp only
          rw [enB_is]
          refine Ret.bind (Ret.condF (by simp) (Ret.ok (Ret.condF (by have := hG.flips; simpa using this) ?_)))
          refine Ret.bind (Ret.cond (fun h1 => Ret.ok (Ret.condT rfl (Ret.ok rfl))) fun h1 => Ret.ok (Ret.cond (fun h2 => Ret.ok rfl) fun h2 => ?_))
          have h1 : enB m (score m y) ≠ enB m (score m x) := by simpa using h1
          have h2 := of_decide_eq_false h2
          have h3 := hG.first f y hy h1
          have hfl := lsOf_len x.length f
          have hlens : (lsOf x.length g).length = (lsOf x.length f).length := by
            unfold setc at h3
            split at h3 <;> omega
          have h4 : lexc (lsOf x.length g) (lsOf x.length f) ≤ 0 := by
            unfold setc at h3
            rw [if_pos hlens] at h3; exact h3
          refine Ret.condF (decide_eq_false (by omega)) ?_
          refine Ret.bind (Ret.loop (fun t : Int => ∃ n : Nat, t = n ∧ n ≤ (lsOf x.length f).length ∧ ∀ j, j < n → (lsOf x.length g)[j]? = (lsOf x.length f)[j]?) (fun t => (lsOf x.length f).length - t.toNat) ⟨0, rfl, Nat.zero_le _, fun j h => by omega⟩ ?_)
          rintro _ ⟨n, rfl, hn, hpre⟩
          refine Ret.cond (fun h5 => ?_) fun h5 => ?_
          · have hlt : n < (lsOf x.length f).length := by have := of_decide_eq_true h5; omega
            have ha : (lsOf x.length f)[n]? = some (lsOf x.length f)[n] := List.getElem?_eq_getElem hlt
            have hb : (lsOf x.length g)[n]? = some ((lsOf x.length g)[n]'(by omega)) := List.getElem?_eq_getElem (by omega)
            generalize (lsOf x.length f)[n] = a at ha
            generalize (lsOf x.length g)[n]'(by omega) = b at hb
            refine Ret.bind (Ret.ixo ha (Ret.bind (Ret.ixo hb (Ret.cond (fun h6 => ?_) fun h6 => ?_))))
            · have hne : b ≠ a := fun e => by subst e; simp at h6
              have := lexc_diff hpre hb ha hne h4
              refine Ret.bind (Ret.condT rfl (Ret.bind (Ret.ixo hb (Ret.bind (Ret.ixo ha (Ret.ok ?_))))))
              rw [decide_eq_true this]
              exact Ret.done (Ret.elimR (Ret.ok rfl))
            · have e : a = b := by simpa using h6
              refine Ret.bind (Ret.chk (by omega) (Ret.next ⟨⟨n + 1, rfl, hlt, fun j hj => ?_⟩, by omega⟩))
              by_cases e2 : j = n
              · rw [e2, ha, hb, e]
              · exact hpre j (by omega)
          · have hn2 : n = (lsOf x.length f).length := by have := of_decide_eq_false h5; omega
            subst hn2
            have hsame : lsOf x.length g = lsOf x.length f := List.ext_getElem? fun j => by
              by_cases hj : j < (lsOf x.length f).length
              · exact hpre j hj
              · rw [List.getElem?_eq_none (by omega), List.getElem?_eq_none (by omega)]
            have hyg : Choice x g y := ⟨hy.1, fun j a b ha hb => by
              have h7 := hy.2 j a b ha hb
              have hj := get_lt ha
              have h8 : g j = true ↔ f j = true := by
                have h9 := lsOf_mem (n := x.length) (f := g) (t := j)
                have h10 := lsOf_mem (n := x.length) (f := f) (t := j)
                rw [hsame] at h9
                constructor
                · intro e; exact (h10.1 (h9.2 ⟨hj, e⟩)).2
                · intro e; exact (h9.1 (h10.2 ⟨hj, e⟩)).2
              by_cases e : f j = true
              · rw [if_pos (h8.2 e)]; rw [if_pos e] at h7; exact h7
              · rw [if_neg fun e' => e (h8.1 e')]; rw [if_neg e] at h7; exact h7⟩
            let w : List Int := (tsOf x.length g).map fun t => (y[t]?).getD 0
            have hw : ∀ (i t : Nat), (tsOf x.length g)[i]? = some t → w[i]? = y[t]? := fun i t hi => by
              have htl := (ts_get hi).1
              have hyt : y[t]? = some (y[t]'(by omega)) := List.getElem?_eq_getElem (by omega)
              show ((tsOf x.length g).map fun t => (y[t]?).getD 0)[i]? = _
              rw [List.getElem?_map, hi, hyt]
              show some ((y[t]?).getD 0) = _
              rw [hyt]; rfl
            have h6 := hG.least y hyg h1 w (List.length_map ..) hw
            refine Ret.done (Ret.elimL ?_)
            refine Ret.bind (Ret.loop (fun t : Int => ∃ n : Nat, t = n ∧ n ≤ (lsOf x.length g).length ∧ ∀ j, j < n → v[j]? = w[j]?) (fun t => (lsOf x.length g).length - t.toNat) ⟨0, rfl, Nat.zero_le _, fun j h => by omega⟩ ?_)
            rintro _ ⟨n, rfl, hn, hpre2⟩
            refine Ret.cond (fun h5 => ?_) fun h5 => ?_
            · have hlt : n < (lsOf x.length g).length := by have := of_decide_eq_true h5; omega
              have htn : (tsOf x.length g)[n]? = some ((tsOf x.length g)[n]'(by omega)) := List.getElem?_eq_getElem (by omega)
              generalize (tsOf x.length g)[n]'(by omega) = t at htn
              have hln := lsOf_get htn
              have htl := (ts_get htn).1
              have hyt : y[t]? = some (y[t]'(by omega)) := List.getElem?_eq_getElem (by omega)
              generalize y[t]'(by omega) = a at hyt
              have hwn : w[n]? = some a := by rw [hw n t htn]; exact hyt
              have hvn : v[n]? = some (v[n]'(by omega)) := List.getElem?_eq_getElem (by omega)
              generalize v[n]'(by omega) = b at hvn
              refine Ret.bind (Ret.ixo hln (Ret.bind (Ret.ixo hyt (Ret.bind (Ret.ixo hvn (Ret.cond (fun h7 => ?_) fun h7 => ?_))))))
              · have hne : b ≠ a := fun e => by subst e; simp at h7
                have := lexc_diff hpre2 hvn hwn hne h6
                refine Ret.bind (Ret.condT rfl (Ret.bind (Ret.ixo hvn (Ret.bind (Ret.ixo hyt (Ret.ok ?_))))))
                rw [decide_eq_true this]
                exact Ret.done (Ret.elimR (Ret.ok rfl))
              · have e : a = b := by simpa using h7
                refine Ret.bind (Ret.chk (by omega) (Ret.next ⟨⟨n + 1, rfl, hlt, fun j hj => ?_⟩, by omega⟩))
                by_cases e2 : j = n
                · rw [e2, hvn, hwn, e]
                · exact hpre2 j (by omega)
            · exact Ret.done (Ret.elimL (Ret.ok rfl))
end S
end Go.Proofs.Ytecmlmngcnionaa
