/-
  Slices that a function owns: literals, append, reading and writing an element; how facts pass over a change of memory (Adv). General: nothing of the program is named here.
-/
import Derived.Test.YtecmlmngcnionaaSxOps
namespace Go.Sx
open Go Go.RowKit

/-- The block of a slice, where it holds anything. -/
def ob : Value → List Nat
  | .slice (some a) _ (_ + 1) => [a.block]
  | _ => []

/-- Cells, element by element. -/
def Chunks {α : Type} (E : Enc α) (M : List Nat) (w : World) : List Value → List α → Prop
  | cs, [] => cs = []
  | cs, x :: r => ∃ c rest, cs = c ++ rest ∧ E.R M w c x ∧ Chunks E M w rest r
theorem Chunks.len {α : Type} {E : Enc α} {M : List Nat} {w : World} : ∀ {cs : List Value} {xs : List α}, Chunks E M w cs xs → cs.length = xs.length * E.n
  | cs, [], h => by have h : cs = [] := h; simp [h]
  | cs, x :: r, ⟨c, rest, h, hR, hr⟩ => by
    have := E.len hR
    have := Chunks.len hr
    simp [h, *, Nat.add_mul]; omega
theorem Chunks.one {α : Type} {E : Enc α} {M : List Nat} {w : World} : ∀ {cs : List Value} {xs : List α}, Chunks E M w cs xs → ∀ u ∈ cs, u.oneCell' = true
  | cs, [], h, u, hu => by have h : cs = [] := h; subst h; cases hu
  | cs, x :: r, ⟨c, rest, h, hR, hr⟩, u, hu => by
    subst h
    rcases List.mem_append.1 hu with hu | hu
    · exact E.one hR u hu
    · exact Chunks.one hr u hu
theorem Chunks.adv {α : Type} {E : Enc α} {M M' : List Nat} {w w' : World} (ha : Adv M M' w w') : ∀ {cs : List Value} {xs : List α}, Chunks E M w cs xs → Chunks E M' w' cs xs
  | _, [], h => h
  | _, _ :: _, ⟨c, rest, h, hR, hr⟩ => ⟨c, rest, h, E.adv hR ha, Chunks.adv ha hr⟩
theorem Chunks.append {α : Type} {E : Enc α} {M : List Nat} {w : World} {ds : List Value} {ys : List α} (hd : Chunks E M w ds ys) : ∀ {cs : List Value} {xs : List α}, Chunks E M w cs xs → Chunks E M w (cs ++ ds) (xs ++ ys)
  | cs, [], h => by have h : cs = [] := h; subst h; exact hd
  | cs, x :: r, ⟨c, rest, h, hR, hr⟩ => ⟨c, rest ++ ds, by rw [h, List.append_assoc], hR, Chunks.append hd hr⟩
theorem Chunks.single {α : Type} {E : Enc α} {M : List Nat} {w : World} {c : List Value} {x : α} (h : E.R M w c x) : Chunks E M w c [x] := ⟨c, [], by simp, h, rfl⟩
theorem Chunks.get {α : Type} {E : Enc α} {M : List Nat} {w : World} : ∀ {cs : List Value} {xs : List α}, Chunks E M w cs xs → ∀ i (h : i < xs.length), E.R M w ((cs.drop (i * E.n)).take E.n) xs[i]
  | cs, [], _, i, hi => by simp at hi
  | cs, x :: r, ⟨c, rest, h, hR, hr⟩, 0, _ => by
    have hl := E.len hR
    subst h
    simpa [← hl] using hR
  | cs, x :: r, ⟨c, rest, h, hR, hr⟩, i + 1, hi => by
    have hl := E.len hR
    have := Chunks.get hr i (by simpa using hi)
    subst h
    have hd : (c ++ rest).drop ((i + 1) * E.n) = rest.drop (i * E.n) := by
      rw [Nat.add_mul, Nat.one_mul, Nat.add_comm, ← hl]
      simp [List.drop_append, List.drop_eq_nil_of_le]
    rw [hd]
    simpa using this
theorem Chunks.of_get {α : Type} {E : Enc α} {M : List Nat} {w : World} : ∀ (xs : List α) (f : Nat → List Value), (∀ i (h : i < xs.length), E.R M w (f i) xs[i]) → Chunks E M w ((List.range xs.length).map f).flatten xs
  | [], f, _ => rfl
  | x :: r, f, h => by
    refine ⟨f 0, ((List.range r.length).map fun i => f (i + 1)).flatten, ?_, h 0 (by simp), Chunks.of_get r (fun i => f (i + 1)) fun i hi => ?_⟩
    · simp [List.range_succ_eq_map, List.map_map, Function.comp_def]
    · exact h (i + 1) (by simpa using hi)
/-- One element set. -/
theorem Chunks.set {α : Type} {E : Enc α} {M : List Nat} {w : World} (h1 : E.n = 1) {u : Value} {y : α} (hy : E.R M w [u] y) : ∀ {cs : List Value} {xs : List α}, Chunks E M w cs xs → ∀ i, Chunks E M w (cs.set i u) (xs.set i y)
  | cs, [], h, i => by have h : cs = [] := h; subst h; rfl
  | cs, x :: r, ⟨c, rest, h, hR, hr⟩, 0 => by
    have hl := E.len hR
    match c, hl.trans h1 with
    | [v], _ => subst h; exact ⟨[u], rest, by simp, hy, hr⟩
  | cs, x :: r, ⟨c, rest, h, hR, hr⟩, i + 1 => by
    have hl := E.len hR
    match c, hl.trans h1 with
    | [v], _ => subst h; exact ⟨[v], rest.set i u, by simp, hR, Chunks.set h1 hy hr i⟩

/-- v is a slice of the function's own, from block Bb on, that reads as xs; or one that holds nothing and has no room. -/
def Own {α : Type} (E : Enc α) (e : TypeId) (Bb : Nat) (M : List Nat) (w : World) (v : Value) (xs : List α) : Prop :=
  (∃ a, v = .slice a 0 0 ∧ xs = []) ∨
  ∃ g cap cur, v = .slice (some ⟨g, 0, none⟩) xs.length (cap + 1) ∧ Bb ≤ g ∧ w.heap[g]? = some (.cells cur e (0, 0)) ∧ xs.length ≤ cap + 1 ∧ cap + 1 ≤ maxLen ∧ cur.size = (cap + 1) * E.n ∧ Chunks E (g :: M) w (cur.toList.take (xs.length * E.n)) xs
theorem Own.lit0 {α : Type} (E : Enc α) (e : TypeId) (Bb : Nat) (M : List Nat) (w : World) (a : Option Addr) : Own E e Bb M w (.slice a 0 0) [] := .inl ⟨a, rfl, rfl⟩
theorem Own.nil {α : Type} (E : Enc α) (e : TypeId) (Bb : Nat) (M : List Nat) (w : World) : Own E e Bb M w (.slice none 0 0) [] := .inl ⟨_, rfl, rfl⟩
theorem heap_lt {w : World} {g : Nat} {o : Obj} (h : w.heap[g]? = some o) : g < w.heap.size := by
  rcases Nat.lt_or_ge g w.heap.size with h1 | h1
  · exact h1
  · rw [Array.getElem?_eq_none h1] at h; cases h
theorem ob_lit0 {a : Option Addr} {n : Nat} : ob (.slice a n 0) = [] := by cases a <;> rfl
theorem Own.ge {α : Type} {E : Enc α} {e : TypeId} {Bb : Nat} {M : List Nat} {w : World} {v : Value} {xs : List α} (h : Own E e Bb M w v xs) : ∀ b ∈ ob v, Bb ≤ b ∧ b < w.heap.size := by
  rcases h with ⟨a, rfl, rfl⟩ | ⟨g, cap, cur, rfl, h1, h2, _⟩
  · intro b hb; rw [ob_lit0] at hb; cases hb
  · intro b hb
    have : b = g := by simpa [ob] using hb
    subst this; exact ⟨h1, heap_lt h2⟩
theorem Own.shape {α : Type} {E : Enc α} {e : TypeId} {Bb : Nat} {M : List Nat} {w : World} {v : Value} {xs : List α} (h : Own E e Bb M w v xs) : ∃ a c, v = .slice a xs.length c ∧ xs.length ≤ c ∧ c ≤ 9223372036854775807 := by
  rcases h with ⟨a, rfl, rfl⟩ | ⟨g, cap, cur, rfl, h1, h2, h3, h4, _⟩
  · exact ⟨a, 0, rfl, by simp, by omega⟩
  · exact ⟨_, _, rfl, h3, by simp only [maxLen] at h4; omega⟩
theorem Own.len {α : Type} {E : Enc α} {e : TypeId} {Bb : Nat} {M : List Nat} {w : World} {v : Value} {xs : List α} (h : Own E e Bb M w v xs) : xs.length ≤ 9223372036854775807 := by
  obtain ⟨a, c, _, h1, h2⟩ := h.shape; omega
/-- What is owned passes over a change of memory that leaves its block. -/
theorem Own.adv {α : Type} {E : Enc α} {e : TypeId} {Bb : Nat} {M M' : List Nat} {w w' : World} {v : Value} {xs : List α} (h : Own E e Bb M w v xs) (ha : Adv M M' w w') (hb : ∀ b ∈ ob v, b ∉ M) : Own E e Bb M' w' v xs := by
  rcases h with h | ⟨g, cap, cur, rfl, h1, h2, h3, h4, h5, h6⟩
  · exact .inl h
  · refine .inr ⟨g, cap, cur, rfl, h1, by rw [ha.kp.block g (heap_lt h2) (hb g (by simp [ob]))]; exact h2, h3, h4, h5, Chunks.adv ⟨ha.kp.mono fun x hx => .inl (List.mem_cons_of_mem _ hx), fun b hb' => ?_⟩ h6⟩
    rcases List.mem_cons.1 hb' with rfl | h
    · exact .inl (List.mem_cons_self ..)
    · rcases ha.new b h with h | h
      · exact .inl (List.mem_cons_of_mem _ h)
      · exact .inr h
theorem Own.ext {α : Type} {E : Enc α} {e : TypeId} {Bb : Nat} {M : List Nat} {w w' : World} {v : Value} {xs : List α} (h : Own E e Bb M w v xs) (ha : Ext w w') : Own E e Bb M w' v xs := by
  rcases h with h | ⟨g, cap, cur, rfl, h1, h2, h3, h4, h5, h6⟩
  · exact .inl h
  · exact .inr ⟨g, cap, cur, rfl, h1, by rw [ha.block g (heap_lt h2) (by simp)]; exact h2, h3, h4, h5, Chunks.adv (Adv.of_ext ha) h6⟩
theorem cells_of_row {w : World} {g : Nat} {cur : Array Value} {e : TypeId} {z : Nat × Nat} (h : w.heap[g]? = some (.cells cur e z)) {j : Nat} {u : Value} (hj : cur[j]? = some u) : w.cell? ⟨g, j, none⟩ = some u := by
  show (match w.heap[g]? with | some (.cells c _ _) => if Option.isSome (none : Option Nat) then none else c[j]? | _ => none) = some u
  rw [h]; simpa using hj
/-- What is owned, read. -/
theorem Own.rd {α : Type} {E : Enc α} {e : TypeId} {Bb : Nat} {M : List Nat} {w : World} {v : Value} {xs : List α} (h : Own E e Bb M w v xs) (hb : ∀ b ∈ ob v, b ∉ M) : RdS E M w v xs := by
  rcases h with ⟨a, rfl, rfl⟩ | ⟨g, cap, cur, rfl, h1, h2, h3, h4, h5, h6⟩
  · exact ⟨a, 0, rfl, by simp, by omega, .inl rfl⟩
  · refine ⟨_, cap + 1, rfl, h3, h4, .inr ⟨g, 0, rfl, hb g (by simp [ob]), heap_lt h2, fun i hi => ?_⟩⟩
    refine ⟨_, E.mon (fun b hb => .inl (List.mem_cons_of_mem _ hb)) (h6.get i hi), fun j u hj => ?_⟩
    rw [List.getElem?_take] at hj
    split at hj
    · rw [List.getElem?_drop, List.getElem?_take] at hj
      split at hj
      · have := cells_of_row h2 (j := i * E.n + j) (u := u) (by simpa using hj)
        simpa [Nat.add_assoc] using this
      · cases hj
    · cases hj

/-- What is known of a slice's type: its elements' type, their cells and bytes. -/
structure SlT (P : Program) (t e : TypeId) (n bytes : Nat) : Prop where
  und : P.underlying t = some (.slice e)
  info : ∃ i z, P.info? e = some i ∧ i.zero = some z ∧ i.size = n ∧ i.bytes = bytes ∧ z.cells.size = n

theorem RdS.cells {α : Type} {E : Enc α} {M : List Nat} {w : World} {v : Value} {xs : List α} (h : RdS E M w v xs) : ∃ a c news, v = .slice a xs.length c ∧ Chunks E M w news xs ∧ (xs = [] ∨ ∃ b o, a = some ⟨b, o, none⟩ ∧ Cells w b o news) := by
  obtain ⟨a, c, rfl, _, _, h3⟩ := h
  rcases h3 with rfl | ⟨b, o, rfl, _, _, h⟩
  · exact ⟨a, c, [], rfl, rfl, .inl rfl⟩
  · have h' : ∀ i, ∃ cs, ∀ (hi : i < xs.length), E.R M w cs xs[i] ∧ Cells w b (o + i * E.n) cs := fun i => by
      by_cases hi : i < xs.length
      · obtain ⟨cs, h⟩ := h i hi; exact ⟨cs, fun _ => h⟩
      · exact ⟨[], fun h => absurd h hi⟩
    refine ⟨_, c, ((List.range xs.length).map fun i => (h' i).choose).flatten, rfl, Chunks.of_get xs _ fun i hi => ((h' i).choose_spec hi).1, .inr ⟨b, o, rfl, ?_⟩⟩
    have key : ∀ n, n ≤ xs.length → Cells w b o ((List.range n).map fun i => (h' i).choose).flatten ∧ ((List.range n).map fun i => (h' i).choose).flatten.length = n * E.n := by
      intro n
      induction n with
      | zero => intro _; exact ⟨Cells.nil _ _ _, by simp⟩
      | succ n ih =>
        intro hn
        obtain ⟨ih1, ih2⟩ := ih (by omega)
        have hs := (h' n).choose_spec (by omega)
        simp only [List.range_succ, List.map_append, List.map_cons, List.map_nil, List.flatten_append, List.flatten_cons, List.flatten_nil, List.append_nil]
        refine ⟨ih1.append (by rw [ih2]; exact hs.2), ?_⟩
        rw [List.length_append, ih2, E.len hs.1, Nat.add_mul, Nat.one_mul]
    exact (key xs.length (Nat.le_refl _)).1

/-- append: what it hands back is owned, and only its own old block may have been written. -/
theorem run_append {α : Type} {P : Program} {E : Enc α} {t e bytes : Nat} (T : SlT P t e E.n bytes) {Bb : Nat} {M : List Nat} {w : World} {v x : Value} {xs ys : List α} {ty : TypeId}
    (ho : Own E e Bb M w v xs) (hx : RdS E (ob v ++ M) w x ys) (hB : Bb ≤ w.heap.size) (hlen : xs.length + ys.length ≤ maxLen) (hbytes : (xs.length + ys.length) * bytes ≤ 140737488355328) :
    ∃ v' w', (Builtin.append_ #[t, t] ty #[v, x]).run P w = .ok v' w' ∧ Own E e Bb M w' v' (xs ++ ys) ∧ Kp (ob v) w w' ∧ (∀ b ∈ ob v', b ∈ ob v ∨ w.heap.size ≤ b) := by
  obtain ⟨i, z, hi, hz, hs, hb, hzs⟩ := T.info
  have hpos' := E.pos
  obtain ⟨a, c, news, rfl, hch, hcell⟩ := hx.cells
  have hl : news.length = ys.length * i.size := by rw [hs]; exact hch.len
  have h1 := hch.one
  by_cases hy : ys = []
  · subst hy
    refine ⟨v, w, ?_, by rw [List.append_nil]; exact ho, Kp.refl _ _, fun b hb => .inl hb⟩
    rcases ho with ⟨a', rfl, rfl⟩ | ⟨g, cap, cur, rfl, _, _, hnc, _⟩
    · cases a <;> cases a' <;> simp [Builtin.append_, run_underlying T.und, sizeOf, typeInfo, hi, Builtin.lenOf, Builtin.firstCells, loadCells, loadCellsFrom, storeCells]
    · cases a <;> simp [Builtin.append_, run_underlying T.und, sizeOf, typeInfo, hi, Builtin.lenOf, Builtin.firstCells, loadCells, loadCellsFrom, hnc, storeCells]
  · rcases hcell with h | ⟨b, o, rfl, hC⟩
    · exact absurd h hy
    have hnews : ∀ j u, news[j]? = some u → w.cell? ((⟨b, o, none⟩ : Addr).add j) = some u := fun j u hj => by rw [add_none]; exact hC j u hj
    have hpos : 0 < ys.length := List.length_pos_iff.2 hy
    have hsmall : xs.length + ys.length ≤ 9223372036854775807 := by simp only [maxLen] at hlen; omega
    have grown : ∀ (old : Nat) (cs : List Value), old < xs.length + ys.length → cs.length = xs.length * i.size → Chunks E (ob v ++ M) w cs xs →
        Own E e Bb M (w.drew.alloc (.cells (cs.toArray ++ news.toArray ++ Builtin.zeroCells z.cells (grownCap w (xs.length + ys.length) old e - (xs.length + ys.length))) e)) (.slice (some ⟨w.heap.size, 0, none⟩) (xs.length + ys.length) (grownCap w (xs.length + ys.length) old e)) (xs ++ ys) ∧
        Kp (ob v) w (w.drew.alloc (.cells (cs.toArray ++ news.toArray ++ Builtin.zeroCells z.cells (grownCap w (xs.length + ys.length) old e - (xs.length + ys.length))) e)) ∧
        (∀ k ∈ ob (.slice (some ⟨w.heap.size, 0, none⟩) (xs.length + ys.length) (grownCap w (xs.length + ys.length) old e)), k ∈ ob v ∨ w.heap.size ≤ k) := fun old cs ho hcl hcs => by
      have hge := grownCap_ge w (xs.length + ys.length) old e
      have hcm : grownCap w (xs.length + ys.length) old e ≤ maxLen := grownCap_le_maxLen w _ old e hlen
      have hk : Kp (ob v) w (w.drew.alloc (.cells (cs.toArray ++ news.toArray ++ Builtin.zeroCells z.cells (grownCap w (xs.length + ys.length) old e - (xs.length + ys.length))) e)) :=
        ⟨rfl, rfl, rfl, by simp, fun k hk _ => Below.heap_alloc w.drew _ k hk⟩
      have hll : (cs ++ news).length = (xs.length + ys.length) * i.size := by rw [List.length_append, hcl, hl, Nat.add_mul]
      obtain ⟨gc, hgc⟩ : ∃ gc, grownCap w (xs.length + ys.length) old e = gc + 1 := ⟨grownCap w (xs.length + ys.length) old e - 1, by omega⟩
      refine ⟨?_, hk, fun k hk' => ?_⟩
      · refine .inr ⟨w.heap.size, gc, _, by rw [List.length_append, hgc], hB, heap_alloc_new w.drew _, by rw [List.length_append]; omega, by omega, ?_, ?_⟩
        · simp only [Array.size_append, List.size_toArray, size_zeroCells, hzs, hcl, hl, ← Nat.add_mul, hs]
          congr 1
          omega
        · have htk : ((cs.toArray ++ news.toArray ++ Builtin.zeroCells z.cells (grownCap w (xs.length + ys.length) old e - (xs.length + ys.length))).toList.take ((xs ++ ys).length * E.n)) = cs ++ news := by
            simp only [Array.toList_append, List.append_assoc]
            rw [← List.append_assoc, ← hs, List.length_append, ← hll]
            exact List.take_left
          rw [htk]
          have ha : Adv (ob v ++ M) (w.heap.size :: M) w (w.drew.alloc (.cells (cs.toArray ++ news.toArray ++ Builtin.zeroCells z.cells (grownCap w (xs.length + ys.length) old e - (xs.length + ys.length))) e)) := ⟨hk.mono fun x hx => .inl (List.mem_append.2 (.inl hx)), fun b hb => by
            rcases List.mem_cons.1 hb with rfl | h
            · exact .inr (Nat.le_refl _)
            · exact .inl (List.mem_append.2 (.inr h))⟩
          exact Chunks.append (Chunks.adv ha hch) (Chunks.adv ha hcs)
      · rw [hgc] at hk'
        have : k = w.heap.size := by simpa [ob] using hk'
        subst this; exact .inr (Nat.le_refl _)
    rcases ho with ⟨a', rfl, rfl⟩ | ⟨g, cap, cur, rfl, hbg, hg, hnc, hcm, hcc, hcs⟩
    · have hg := grown 0 [] (by simpa using hpos) (by simp) rfl
      simp only [List.length_nil, Nat.zero_add, List.nil_append, Array.empty_append] at hg ⊢
      cases a' with
      | none =>
        have hr := run_append_nil (P := P) w t ty e i z T.und hi hz ⟨b, o, none⟩ ys.length c news hl hnews hpos (by simp only [List.length_nil] at hsmall; omega) (by rw [hb]; simp only [List.length_nil, Nat.zero_add] at hbytes; omega)
        exact ⟨_, _, hr, hg.1, hg.2.1, hg.2.2⟩
      | some a' =>
        have hr := run_append_grow (P := P) w t ty e i z T.und hi hz a' 0 0 [] (by simp) (fun j u hj => by simp at hj) ⟨b, o, none⟩ ys.length c news hl hnews (by omega) (by simp only [List.length_nil] at hsmall; omega) (growslice_fits (by omega) (by rw [hb]; simpa using hbytes))
        simp only [Nat.zero_add, List.nil_append, Array.empty_append] at hr
        exact ⟨_, _, hr, hg.1, hg.2.1, hg.2.2⟩
    · have hcl : (cur.toList.take (xs.length * E.n)).length = xs.length * i.size := by
        have hcz : cur.toList.length = cur.size := Array.length_toList
        rw [List.length_take, hcz, hcc, hs]
        exact Nat.min_eq_left (Nat.mul_le_mul_right _ hnc)
      have hll : (cur.toList.take (xs.length * E.n) ++ news).length = (xs.length + ys.length) * i.size := by rw [List.length_append, hcl, hl, Nat.add_mul]
      by_cases hroom : xs.length + ys.length ≤ cap + 1
      · have hfit : xs.length * i.size + news.length ≤ cur.size := by rw [hl, hcc, ← Nat.add_mul, hs]; exact Nat.mul_le_mul_right _ hroom
        have hr := run_append_room (P := P) w t ty e i T.und hi g xs.length (cap + 1) cur hg ⟨b, o, none⟩ ys.length c news hl hnews h1 hroom hfit
        have hk : Kp (ob (.slice (some ⟨g, 0, none⟩) xs.length (cap + 1))) w (w.setRow g (cur.toList.take (xs.length * i.size) ++ news ++ cur.toList.drop (xs.length * i.size + news.length)).toArray) :=
          ⟨rfl, rfl, rfl, by simp, fun k _ hk => setRow_other w g k _ (fun e => hk (by simp [ob, e]))⟩
        have ha : Adv (ob (.slice (some ⟨g, 0, none⟩) xs.length (cap + 1)) ++ M) (g :: M) w (w.setRow g (cur.toList.take (xs.length * i.size) ++ news ++ cur.toList.drop (xs.length * i.size + news.length)).toArray) := ⟨hk.mono fun x hx => .inl (List.mem_append.2 (.inl hx)), fun b hb => .inl hb⟩
        refine ⟨_, _, hr, .inr ⟨g, cap, _, by rw [List.length_append], hbg, setRow_heap w g cur _ e _ hg, by rw [List.length_append]; exact hroom, hcm, ?_, ?_⟩, hk, fun b hb => .inl (by simpa [ob] using hb)⟩
        · simp only [List.size_toArray, List.length_append, List.length_take, List.length_drop, Array.length_toList]
          omega
        · have htk : ((cur.toList.take (xs.length * i.size) ++ news ++ cur.toList.drop (xs.length * i.size + news.length)).toArray.toList.take ((xs ++ ys).length * E.n)) = cur.toList.take (xs.length * E.n) ++ news := by
            rw [← hs] at hll ⊢
            rw [List.length_append, ← hll]
            exact List.take_left
          rw [htk]
          exact Chunks.append (Chunks.adv ha hch) (Chunks.adv ha hcs)
      · have holds : ∀ j u, (cur.toList.take (xs.length * E.n))[j]? = some u → w.cell? ((⟨g, 0, none⟩ : Addr).add j) = some u := fun j u hj => by
          rw [add_none]
          rw [List.getElem?_take] at hj
          split at hj
          · simpa using cells_of_row hg (by simpa using hj)
          · cases hj
        have hr := run_append_grow (P := P) w t ty e i z T.und hi hz ⟨g, 0, none⟩ xs.length (cap + 1) (cur.toList.take (xs.length * E.n)) hcl holds ⟨b, o, none⟩ ys.length c news hl hnews (by omega) (by omega) (growslice_fits (by omega) (by rw [hb]; exact hbytes))
        have hg := grown (cap + 1) (cur.toList.take (xs.length * E.n)) (by omega) hcl hcs
        exact ⟨_, _, hr, hg.1, hg.2.1, hg.2.2⟩

section
variable {P : Program} {N : Nat} {ops : Array Oper} {q : Md} {rest : List Oper} {ds : List Deferred} {L : Env} {w : World} {A B : Out} {X : Nat → Out} {Z : List PanicEntry → Out}
variable {d : Nat} {ty : TypeId} {pos : String} {af : Array Edge}
theorem s_lenO {α : Type} {E : Enc α} {Bb e' : Nat} {M : List Nat} {w0 : World} {t e : TypeId} {x : Operand} {v : Value} {xs : List α} (hx : ev L x = some v) (hv : Own E e' Bb M w0 v xs) (ht : P.underlying t = some (.slice e)) (hN : Nat.blt d N = true)
    (h : Reg P N ops q rest ds ((d, .int .i64 xs.length) :: L) w A B X Z) : Reg P N ops q (⟨some d, .call ⟨.builtin .len, #[x], #[t]⟩, ty, pos, af, none⟩ :: rest) ds L w A B X Z := by
  obtain ⟨a, c, rfl, _⟩ := hv.shape
  exact s_lenV hx ht hN h
theorem s_app {α : Type} {E : Enc α} {t e bytes : Nat} (T : SlT P t e E.n bytes) {Bb : Nat} {M : List Nat} {v x : Value} {xs ys : List α} {s y : Operand} (hs : ev L s = some v) (hy : ev L y = some x)
    (ho : Own E e Bb M w v xs) (hx : RdS E (ob v ++ M) w x ys) (hB : Bb ≤ w.heap.size) (hlen : (xs.length + ys.length) * bytes ≤ 140737488355328 ∧ xs.length + ys.length ≤ 140737488355328) (hN : Nat.blt d N = true)
    (h : ∀ v' w', Own E e Bb M w' v' (xs ++ ys) → Kp (ob v) w w' → Adv (ob v ++ M) (ob v' ++ M) w w' → (∀ b ∈ ob v', b ∈ ob v ∨ w.heap.size ≤ b) → Reg P N ops .seq rest ds ((d, v') :: L) w' A B X Z) :
    Reg P N ops .seq (⟨some d, .call ⟨.builtin .append, #[s, y], #[t, t]⟩, ty, pos, af, none⟩ :: rest) ds L w A B X Z := by
  obtain ⟨v', w', hr, h1, h2, h3⟩ := run_append T (ty := ty) ho hx hB (by simp only [maxLen]; omega) hlen.1
  refine Reg.eff v' w' rfl rfl hN (fun a ha => ?_) (h v' w' h1 h2 ⟨h2.mono fun x hx => .inl (List.mem_append.2 (.inl hx)), fun b hb => ?_⟩ h3)
  · simp [execOp, resolve, invoke, builtin, ha.eval hs, ha.eval hy, hr]
  · rcases List.mem_append.1 hb with h | h
    · rcases h3 b h with h | h
      · exact .inl (List.mem_append.2 (.inl h))
      · exact .inr h
    · exact .inl (List.mem_append.2 (.inr h))
/-! Variables that the function writes. -/
theorem setAt_len : ∀ (cs : List Value) (o : Nat) (vs : List Value), (setAt cs o vs).length = cs.length
  | cs, o, [] => by cases cs <;> rfl
  | [], _, _ :: _ => rfl
  | _ :: r, 0, v :: vs => by simp [setAt, setAt_len r 0 vs]
  | c :: r, n + 1, v :: vs => by simp [setAt, setAt_len r n (v :: vs)]
theorem run_storeAt (b : Nat) (e : TypeId) : ∀ (vs : List Value) (i : Nat) (cs : List Value) (w : World) (o : Nat), Row e w b cs → o + i + vs.length ≤ cs.length → (∀ u ∈ vs, u.oneCell' = true) →
    ∃ w', (storeCells ⟨b, o, none⟩ vs i).run P w = .ok () w' ∧ Row e w' b (setAt cs (o + i) vs) ∧ Kp [b] w w'
  | [], i, cs, w, o, h, _, _ => ⟨w, by simp [storeCells], by cases cs <;> exact h, Kp.refl _ _⟩
  | v :: vs, i, cs, w, o, h, hl, h1 => by
    have hlt := h.rd.lt
    have hi : o + i < cs.length := by simp at hl; omega
    have hc : w.cell? ⟨b, o + i, none⟩ = some cs[o + i] := by
      have := h.rd.cells (o + i) cs[o + i] (List.getElem?_eq_getElem hi)
      simpa using this
    have hf : w.frozen? ⟨b, o + i, none⟩ = false := by
      have h' : w.heap[b]? = some (.cells cs.toArray e (0, 0)) := h
      show (match w.heap[b]? with | some (.cells _ _ (lo, hi)) => lo ≤ o + i && o + i < hi | _ => false) = false
      rw [h']; simp
    have hrow : Row e (w.setCell ⟨b, o + i, none⟩ v) b (cs.set (o + i) v) := by
      have h' : w.heap[b]? = some (.cells cs.toArray e (0, 0)) := h
      show (w.heap.modify b _)[b]? = _
      rw [Array.getElem?_modify, if_pos rfl, h']
      simp
    have hset : setAt (cs.set (o + i) v) (o + (i + 1)) vs = setAt cs (o + i) (v :: vs) := by
      have key : ∀ (cs : List Value) (n : Nat), n < cs.length → setAt (cs.set n v) (n + 1) vs = setAt cs n (v :: vs) := by
        intro cs
        induction cs with
        | nil => intro n hn; simp at hn
        | cons c r ih =>
          intro n hn
          cases n with
          | zero => cases vs <;> simp [setAt] <;> (cases r <;> rfl)
          | succ n =>
            simp only [List.set_cons_succ]
            cases vs with
            | nil => have := ih n (by simpa using hn); simp only [setAt] at this ⊢; rw [this]
            | cons u us => have := ih n (by simpa using hn); simp only [setAt] at this ⊢; rw [this]
      exact key cs (o + i) hi
    obtain ⟨w', hr, hw', hk⟩ := run_storeAt b e vs (i + 1) _ _ o hrow (by simp at hl ⊢; omega) fun u hu => h1 u (List.mem_cons_of_mem _ hu)
    refine ⟨w', ?_, by rw [← hset]; exact hw', (Kp.setCell w ⟨b, o + i, none⟩ v (by simp)).trans hk⟩
    have hst := run_store P w ⟨b, o + i, none⟩ v .plain (h1 v (by simp))
    simp [storeCells, add_none, hst, hc, hf, hr]
theorem s_st {e t : TypeId} {x y : Operand} {b o n : Nat} {cs vs : List Value} {v : Value} (hx : ev L x = some (.pointer (some ⟨b, o, none⟩))) (hy : ev L y = some v) (hv : v.cells = vs.toArray) (hr : Row e w b cs)
    (hz : ∀ w, (sizeOf t).run P w = .ok n w) (hn : vs.length = n) (hl : Nat.ble (o + vs.length) cs.length = true) (h1 : ∀ u ∈ vs, u.oneCell' = true)
    (h : ∀ w', Row e w' b (setAt cs o vs) → Kp [b] w w' → Reg P N ops .seq rest ds L w' A B X Z) :
    Reg P N ops .seq (⟨none, .store t x y, ty, pos, af, none⟩ :: rest) ds L w A B X Z := by
  subst hn
  obtain ⟨w', hrun, hw', hk⟩ := run_storeAt (P := P) b e vs 0 cs w o hr (Nat.le_of_ble_eq_true hl) h1
  refine Reg.sto w' rfl rfl (fun a ha => ?_) (h w' hw' hk)
  simp [execOp, ha.eval hx, ha.eval hy, Instr.storeAt, Instr.sureAddr, storeVar, hv, hz, hrun]
theorem s_al {e : TypeId} {z : Value} {cs : List Value} (hz : ∀ w, (zeroValue e).run P w = .ok z w) (hc : z.cells = cs.toArray) (hN : Nat.blt d N = true)
    (h : ∀ b w', b = w.heap.size → Ext w w' → b < w'.heap.size → w'.heap[b]? = some (.cells cs.toArray e (0, 0)) → Reg P N ops .seq rest ds ((d, .pointer (some ⟨b, 0, none⟩)) :: L) w' A B X Z) :
    Reg P N ops .seq (⟨some d, .alloc e, ty, pos, af, none⟩ :: rest) ds L w A B X Z := by
  refine Reg.eff (.pointer (some ⟨w.heap.size, 0, none⟩)) (w.alloc (.cells cs.toArray e)) rfl rfl hN (fun a ha => ?_) (h _ _ rfl (Kp.alloc _ _ _) (by simp) (heap_alloc_new w _))
  simp [execOp, Instr.alloc, hz, newVar, newRow, hc]
end
end Go.Sx
