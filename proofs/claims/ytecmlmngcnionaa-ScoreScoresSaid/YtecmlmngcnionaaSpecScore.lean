/-
  What the score's functions reckon, in plain Lean.
-/
import Derived.Test.YtecmlmngcnionaaScoreT
namespace Go.Proofs.Ytecmlmngcnionaa
namespace S
def pt (n : Int) : Bool := decide (-1000000 ≤ n ∧ n ≤ 1000000)
def rising : List Int → Bool
  | a :: b :: r => decide (a < b) && rising (b :: r)
  | _ => true
theorem rising_iff : ∀ l : List Int, rising l = true ↔ ∀ j c d, l[j]? = some c → l[j + 1]? = some d → c < d
  | [] => by simp [rising]
  | [a] => by simp [rising]
  | a :: b :: r => by
    simp only [rising, Bool.and_eq_true, decide_eq_true_eq, rising_iff (b :: r)]
    constructor
    · rintro ⟨h1, h2⟩ j c d hc hd
      cases j with
      | zero => simp at hc hd; omega
      | succ j => exact h2 j c d (by simpa using hc) (by simpa using hd)
    · intro h
      exact ⟨h 0 a b rfl rfl, fun j c d hc hd => h (j + 1) c d (by simpa using hc) (by simpa using hd)⟩
theorem all_iff {α : Type} (p : α → Bool) (l : List α) : l.all p = true ↔ ∀ (j : Nat) (x : α), l[j]? = some x → p x = true := by
  rw [List.all_eq_true]
  constructor
  · intro h j x hx; exact h x (List.mem_of_getElem? hx)
  · intro h x hx
    obtain ⟨j, hj⟩ := List.getElem?_of_mem hx
    exact h j x hj
def scaleOk (s : Scale) : Bool :=
  decide (s.cuts.length ≤ 3) && decide (s.points.length = s.cuts.length + 1) && pt s.none_ && s.cuts.all (fun c => decide (1 ≤ c ∧ c ≤ 1000000)) && rising s.cuts && s.points.all pt
def cardOk (c : Card) (traits : Int) : Bool :=
  decide (0 ≤ c.weight ∧ c.weight ≤ 1000) && pt c.base && decide ((c.scales.length : Int) = traits) && c.scales.all scaleOk
def nodeOk (traits : Int) (len i : Nat) (n : Node) : Bool :=
  pt n.points && (decide (n.trait = -1 ∧ n.cut = 0 ∧ n.low = 0 ∧ n.high = 0) ||
    decide (0 ≤ n.trait ∧ n.trait ≤ traits - 1 ∧ 1 ≤ n.cut ∧ n.cut ≤ 1000000 ∧ (i : Int) < n.low ∧ (i : Int) < n.high ∧ n.low < len ∧ n.high < len ∧ n.low ≠ n.high ∧ n.points = 0))
def treeOk (t : Tree) (traits : Int) : Bool :=
  decide (0 ≤ t.weight ∧ t.weight ≤ 1000) && decide (1 ≤ t.nodes.length ∧ t.nodes.length ≤ 7) && (t.nodes.zipIdx.all fun p => nodeOk traits t.nodes.length p.2 p.1)
def modelOk (m : Model) : Bool :=
  decide (1 ≤ m.traits ∧ m.traits ≤ 5) && pt m.need && decide (m.cards.length ≤ 2) && decide (m.trees.length ≤ 2) && m.cards.all (cardOk · m.traits) && m.trees.all (treeOk · m.traits)
def check (m : Model) : Int := if modelOk m then 0 else 60
def valuesOk (m : Model) (x : List Int) : Bool := decide ((x.length : Int) = m.traits) && x.all fun v => decide (-1 ≤ v ∧ v ≤ 1000000)
def onScale (s : Scale) (x : Int) : Int := if x = -1 then s.none_ else (s.points[(s.cuts.filter fun c => decide (c ≤ x)).length]?).getD 0
def parts (c : Card) (x : List Int) : List Int := c.scales.zipIdx.map fun p => onScale p.1 ((x[p.2]?).getD 0)
def onCard (c : Card) (x : List Int) : Int := c.base + (parts c x).sum
def onTreeFrom (t : Tree) (x : List Int) : Nat → Int → Int
  | 0, _ => 0
  | k + 1, at_ => match t.nodes[at_.toNat]? with
    | none => 0
    | some n => if n.trait = -1 then n.points else if (x[n.trait.toNat]?).getD 0 < n.cut then onTreeFrom t x k n.low else onTreeFrom t x k n.high
def onTree (t : Tree) (x : List Int) : Int := onTreeFrom t x t.nodes.length 0
def all (m : Model) (x : List Int) : List Int := m.cards.map (onCard · x) ++ m.trees.map (onTree · x)
def score (m : Model) (x : List Int) : Int := (m.cards.map fun c => c.weight * onCard c x).sum + (m.trees.map fun t => t.weight * onTree t x).sum
def greatScale (s : Scale) : Bool := decide (s.cuts.length > 10) || decide (s.points.length > 12)
def greatCard (c : Card) : Bool := decide (c.scales.length > 10) || c.scales.any greatScale
def greatTree (t : Tree) : Bool := decide (t.nodes.length > 20)
def great (m : Model) : Bool := decide (m.cards.length > 6) || decide (m.trees.length > 6) || m.cards.any greatCard || m.trees.any greatTree
theorem any_iff {α : Type} (p : α → Bool) (l : List α) : l.any p = false ↔ ∀ (j : Nat) (x : α), l[j]? = some x → p x = false := by
  rw [List.any_eq_false]
  constructor
  · intro h j x hx; simpa using h x (List.mem_of_getElem? hx)
  · intro h x hx
    obtain ⟨j, hj⟩ := List.getElem?_of_mem hx
    simp [h j x hj]
theorem upto {α : Type} {l : List α} {P : Nat → α → Prop} {k : Nat} {x : α} (h : ∀ j < k, ∀ y, l[j]? = some y → P j y) (hk : l[k]? = some x) (hx : P k x) : ∀ j < k + 1, ∀ y, l[j]? = some y → P j y := fun j hj y hy => by
  rcases Nat.lt_or_ge j k with h1 | h1
  · exact h j h1 y hy
  · have : j = k := by omega
    subst this
    rw [hk] at hy; cases hy; exact hx
theorem lt_of_get {α : Type} {l : List α} {j : Nat} {y : α} (h : l[j]? = some y) : j < l.length := by
  rcases Nat.lt_or_ge j l.length with h1 | h1
  · exact h1
  · rw [List.getElem?_eq_none h1] at h; cases h
theorem scaleOk_iff {s : Scale} : scaleOk s = true ↔ s.cuts.length ≤ 3 ∧ s.points.length = s.cuts.length + 1 ∧ pt s.none_ = true ∧ (∀ (j : Nat) (y : Int), s.cuts[j]? = some y → 1 ≤ y ∧ y ≤ 1000000) ∧ (∀ (j : Nat) (c d : Int), s.cuts[j]? = some c → s.cuts[j + 1]? = some d → c < d) ∧ (∀ (j : Nat) (y : Int), s.points[j]? = some y → pt y = true) := by
  simp only [scaleOk, Bool.and_eq_true, decide_eq_true_eq, rising_iff, all_iff]
  constructor
  · rintro ⟨⟨⟨⟨⟨h1, h2⟩, h3⟩, h4⟩, h5⟩, h6⟩; exact ⟨h1, h2, h3, h4, h5, h6⟩
  · rintro ⟨h1, h2, h3, h4, h5, h6⟩; exact ⟨⟨⟨⟨⟨h1, h2⟩, h3⟩, h4⟩, h5⟩, h6⟩
theorem cardOk_iff {c : Card} {t : Int} : cardOk c t = true ↔ 0 ≤ c.weight ∧ c.weight ≤ 1000 ∧ pt c.base = true ∧ (c.scales.length : Int) = t ∧ (∀ (j : Nat) (y : Scale), c.scales[j]? = some y → scaleOk y = true) := by
  simp only [cardOk, Bool.and_eq_true, decide_eq_true_eq, all_iff]
  constructor
  · rintro ⟨⟨⟨⟨h1, h2⟩, h3⟩, h4⟩, h5⟩; exact ⟨h1, h2, h3, h4, h5⟩
  · rintro ⟨h1, h2, h3, h4, h5⟩; exact ⟨⟨⟨⟨h1, h2⟩, h3⟩, h4⟩, h5⟩
theorem zip_all {α : Type} (p : α × Nat → Bool) (l : List α) : l.zipIdx.all p = true ↔ ∀ (j : Nat) (x : α), l[j]? = some x → p (x, j) = true := by
  rw [all_iff]
  simp only [List.getElem?_zipIdx]
  constructor
  · intro h j x hx; exact h j (x, j) (by simp [hx])
  · rintro h j ⟨x, i⟩ hx
    cases hl : l[j]? with
    | none => simp [hl] at hx
    | some y => simp [hl] at hx; obtain ⟨rfl, rfl⟩ := hx; exact h j y hl
theorem treeOk_iff {c : Tree} {t : Int} : treeOk c t = true ↔ 0 ≤ c.weight ∧ c.weight ≤ 1000 ∧ 1 ≤ c.nodes.length ∧ c.nodes.length ≤ 7 ∧ (∀ (j : Nat) (y : Node), c.nodes[j]? = some y → nodeOk t c.nodes.length j y = true) := by
  simp only [treeOk, Bool.and_eq_true, decide_eq_true_eq, zip_all]
  constructor
  · rintro ⟨⟨⟨h1, h2⟩, h3, h4⟩, h5⟩; exact ⟨h1, h2, h3, h4, h5⟩
  · rintro ⟨h1, h2, h3, h4, h5⟩; exact ⟨⟨⟨h1, h2⟩, h3, h4⟩, h5⟩
theorem modelOk_iff {m : Model} : modelOk m = true ↔ 1 ≤ m.traits ∧ m.traits ≤ 5 ∧ pt m.need = true ∧ m.cards.length ≤ 2 ∧ m.trees.length ≤ 2 ∧ (∀ (j : Nat) (y : Card), m.cards[j]? = some y → cardOk y m.traits = true) ∧ (∀ (j : Nat) (y : Tree), m.trees[j]? = some y → treeOk y m.traits = true) := by
  simp only [modelOk, Bool.and_eq_true, decide_eq_true_eq, all_iff]
  constructor
  · rintro ⟨⟨⟨⟨⟨⟨h1, h2⟩, h3⟩, h4⟩, h5⟩, h6⟩, h7⟩; exact ⟨h1, h2, h3, h4, h5, h6, h7⟩
  · rintro ⟨h1, h2, h3, h4, h5, h6, h7⟩; exact ⟨⟨⟨⟨⟨⟨h1, h2⟩, h3⟩, h4⟩, h5⟩, h6⟩, h7⟩
theorem valuesOk_iff {m : Model} {x : List Int} : valuesOk m x = true ↔ (x.length : Int) = m.traits ∧ (∀ (j : Nat) (y : Int), x[j]? = some y → -1 ≤ y ∧ y ≤ 1000000) := by
  simp only [valuesOk, Bool.and_eq_true, decide_eq_true_eq, all_iff]
theorem greatCard_iff {c : Card} : greatCard c = false ↔ c.scales.length ≤ 10 ∧ (∀ (j : Nat) (y : Scale), c.scales[j]? = some y → greatScale y = false) := by
  simp only [greatCard, Bool.or_eq_false_iff, any_iff, decide_eq_false_iff_not, Nat.not_lt, gt_iff_lt]
theorem great_iff {m : Model} : great m = false ↔ m.cards.length ≤ 6 ∧ m.trees.length ≤ 6 ∧ (∀ (j : Nat) (y : Card), m.cards[j]? = some y → greatCard y = false) ∧ (∀ (j : Nat) (y : Tree), m.trees[j]? = some y → greatTree y = false) := by
  simp only [great, Bool.or_eq_false_iff, any_iff, decide_eq_false_iff_not, Nat.not_lt, gt_iff_lt]
  constructor
  · rintro ⟨⟨⟨h1, h2⟩, h3⟩, h4⟩; exact ⟨h1, h2, h3, h4⟩
  · rintro ⟨h1, h2, h3, h4⟩; exact ⟨⟨⟨h1, h2⟩, h3⟩, h4⟩
theorem cntT {l : List Int} {p : Int → Bool} {i : Nat} {y : Int} (h : l[i]? = some y) (hp : p y = true) : ((l.take (i + 1)).filter p).length = ((l.take i).filter p).length + 1 := by
  simp [List.take_add_one, h, hp]
theorem cntF {l : List Int} {p : Int → Bool} {i : Nat} {y : Int} (h : l[i]? = some y) (hp : p y = false) : ((l.take (i + 1)).filter p).length = ((l.take i).filter p).length := by
  simp [List.take_add_one, h, hp]
theorem cnt_le {l : List Int} {p : Int → Bool} {i : Nat} : ((l.take i).filter p).length ≤ l.length := by
  have h1 := List.length_filter_le p (l.take i)
  have h2 := List.length_take_le' i l
  omega
theorem pt_iff {n : Int} : pt n = true ↔ -1000000 ≤ n ∧ n ≤ 1000000 := by simp [pt]
theorem onScale_bd {s : Scale} (x : Int) (h : scaleOk s = true) : -1000000 ≤ onScale s x ∧ onScale s x ≤ 1000000 := by
  obtain ⟨h1, h2, h3, h4, h5, h6⟩ := scaleOk_iff.1 h
  unfold onScale
  split
  · exact pt_iff.1 h3
  · have hl : (s.cuts.filter fun c => decide (c ≤ x)).length < s.points.length := by
      have := List.length_filter_le (fun c => decide (c ≤ x)) s.cuts
      omega
    rw [List.getElem?_eq_getElem hl]
    exact pt_iff.1 (h6 _ _ (List.getElem?_eq_getElem hl))
theorem onScale_get {s : Scale} {x y : Int} {n : Nat} (hx : x ≠ -1) (hn : n = ((s.cuts.take s.cuts.length).filter fun c => decide (c ≤ x)).length) (hy : s.points[n]? = some y) : y = onScale s x := by
  unfold onScale
  rw [if_neg hx]
  rw [List.take_length] at hn
  rw [← hn, hy]; rfl
theorem parts_get {c : Card} {x : List Int} {i : Nat} {s : Scale} {v : Int} (hs : c.scales[i]? = some s) (hv : x[i]? = some v) : (parts c x)[i]? = some (onScale s v) := by
  simp [parts, List.getElem?_zipIdx, hs, hv]
theorem parts_len {c : Card} {x : List Int} : (parts c x).length = c.scales.length := by simp [parts]
theorem sum_succ {l : List Int} {i : Nat} {y : Int} (h : l[i]? = some y) : (l.take (i + 1)).sum = (l.take i).sum + y := by
  simp [List.take_add_one, h]
theorem sum_bd {B : Int} : ∀ l : List Int, (∀ y ∈ l, -B ≤ y ∧ y ≤ B) → -(B * l.length) ≤ l.sum ∧ l.sum ≤ B * l.length
  | [], _ => by simp
  | a :: l, h => by
    have h1 := h a (List.mem_cons_self ..)
    have h2 := sum_bd l fun y hy => h y (List.mem_cons_of_mem _ hy)
    simp only [List.sum_cons, List.length_cons, Int.natCast_add, Int.natCast_one, Int.mul_add, Int.mul_one]
    omega
theorem parts_bd {c : Card} {x : List Int} (h : ∀ (j : Nat) (y : Scale), c.scales[j]? = some y → scaleOk y = true) : ∀ y ∈ parts c x, -1000000 ≤ y ∧ y ≤ 1000000 := fun y hy => by
  obtain ⟨p, hp, rfl⟩ := List.mem_map.1 hy
  have h2 : c.scales[p.2]? = some p.1 := List.mem_zipIdx_iff_getElem?.1 hp
  exact onScale_bd _ (h p.2 p.1 h2)
theorem onCard_bd {c : Card} {x : List Int} {t : Int} (h : cardOk c t = true) (ht : t ≤ 5) : -6000000 ≤ onCard c x ∧ onCard c x ≤ 6000000 := by
  obtain ⟨_, _, h3, h4, h5⟩ := cardOk_iff.1 h
  have h6 := sum_bd _ (parts_bd (x := x) h5)
  rw [parts_len] at h6
  have h7 := pt_iff.1 h3
  unfold onCard
  omega
theorem onTreeFrom_bd {t : Tree} {x : List Int} (h : ∀ (j : Nat) (y : Node), t.nodes[j]? = some y → pt y.points = true) : ∀ (k : Nat) (a : Int), -1000000 ≤ onTreeFrom t x k a ∧ onTreeFrom t x k a ≤ 1000000
  | 0, _ => by simp [onTreeFrom]
  | k + 1, a => by
    simp only [onTreeFrom]
    cases hn : t.nodes[a.toNat]? with
    | none => simp
    | some n =>
      simp only []
      split
      · exact pt_iff.1 (h _ _ hn)
      · split <;> exact onTreeFrom_bd h k _
theorem nodeOk_pt {t : Int} {l i : Nat} {n : Node} (h : nodeOk t l i n = true) : pt n.points = true := by
  simp only [nodeOk, Bool.and_eq_true] at h; exact h.1
theorem onTree_bd {t : Tree} {x : List Int} {r : Int} (h : treeOk t r = true) : -1000000 ≤ onTree t x ∧ onTree t x ≤ 1000000 :=
  onTreeFrom_bd (fun j y hy => nodeOk_pt ((treeOk_iff.1 h).2.2.2.2 j y hy)) _ _
/-- One step down a tree. -/
theorem onTree_step {t : Tree} {x : List Int} {k : Nat} {a : Int} {n : Node} {v : Int} (hn : t.nodes[a.toNat]? = some n) (h1 : n.trait ≠ -1) (hv : x[n.trait.toNat]? = some v) : onTreeFrom t x (k + 1) a = if v < n.cut then onTreeFrom t x k n.low else onTreeFrom t x k n.high := by
  simp only [onTreeFrom, hn, h1, if_false, hv, Option.getD_some]
theorem onTree_leaf {t : Tree} {x : List Int} {k : Nat} {a : Int} {n : Node} (hn : t.nodes[a.toNat]? = some n) (h1 : n.trait = -1) : onTreeFrom t x (k + 1) a = n.points := by
  simp only [onTreeFrom, hn, h1, if_true]
theorem node_asks {t : Int} {l i : Nat} {n : Node} (h : nodeOk t l i n = true) (h1 : n.trait ≠ -1) : 0 ≤ n.trait ∧ n.trait ≤ t - 1 ∧ (i : Int) < n.low ∧ (i : Int) < n.high ∧ n.low < l ∧ n.high < l := by
  simp only [nodeOk, Bool.and_eq_true, Bool.or_eq_true, decide_eq_true_eq] at h
  omega
theorem map_succ {α β : Type} {f : α → β} {l : List α} {i : Nat} {y : α} (h : l[i]? = some y) : (l.take (i + 1)).map f = (l.take i).map f ++ [f y] := by
  simp [List.take_add_one, h]
theorem all_len {m : Model} {x : List Int} : (all m x).length = m.cards.length + m.trees.length := by simp [all]
def weightAt (m : Model) (i : Nat) : Int := if i < m.cards.length then ((m.cards[i]?).map (·.weight)).getD 0 else ((m.trees[i - m.cards.length]?).map (·.weight)).getD 0
def err (m : Model) (x : List Int) : Int := if modelOk m then if valuesOk m x then 0 else 61 else 60
/-- The score, as far as part number i. -/
def scoreTo (m : Model) (x : List Int) (i : Nat) : Int := (((all m x).zipIdx.map fun p => weightAt m p.2 * p.1).take i).sum
theorem scoreTo_succ {m : Model} {x : List Int} {i : Nat} {y : Int} (h : (all m x)[i]? = some y) : scoreTo m x (i + 1) = scoreTo m x i + weightAt m i * y := by
  unfold scoreTo
  rw [sum_succ (y := weightAt m i * y) (by simp [List.getElem?_zipIdx, h])]
theorem weightAt_card {m : Model} {i : Nat} {c : Card} (h : m.cards[i]? = some c) : weightAt m i = c.weight := by
  unfold weightAt; rw [if_pos (lt_of_get h), h]; rfl
theorem weightAt_tree {m : Model} {i : Nat} {c : Tree} (hi : ¬ i < m.cards.length) (h : m.trees[i - m.cards.length]? = some c) : weightAt m i = c.weight := by
  unfold weightAt; rw [if_neg hi, h]; rfl
theorem zipIdx_append_sum {α : Type} (f : α × Nat → Int) : ∀ (a b : List α) (k : Nat), ((a ++ b).zipIdx k).map f = (a.zipIdx k).map f ++ (b.zipIdx (k + a.length)).map f := by
  intro a b k; rw [List.zipIdx_append, List.map_append]
theorem score_eq {m : Model} {x : List Int} : scoreTo m x (all m x).length = score m x := by
  unfold scoreTo score
  rw [List.take_of_length_le (by simp)]
  unfold all
  rw [List.zipIdx_append, List.map_append, List.sum_append_int]
  congr 1
  · congr 1
    apply List.ext_getElem?
    intro i
    simp only [List.getElem?_map, List.getElem?_zipIdx]
    cases hc : m.cards[i]? with
    | none => simp
    | some c => simp [weightAt_card hc]
  · congr 1
    apply List.ext_getElem?
    intro i
    simp only [List.getElem?_map, List.getElem?_zipIdx, List.length_map]
    cases hc : m.trees[i]? with
    | none => simp
    | some c =>
      have : weightAt m (0 + m.cards.length + i) = c.weight := weightAt_tree (by omega) (by rw [show 0 + m.cards.length + i - m.cards.length = i by omega]; exact hc)
      rw [Nat.zero_add] at this
      simp [this]
theorem all_bd {m : Model} {x : List Int} (h : modelOk m = true) : ∀ (j : Nat) (y : Int), (all m x)[j]? = some y → -6000000 ≤ y ∧ y ≤ 6000000 := fun j y hy => by
  obtain ⟨_, h2, _, _, _, h6, h7⟩ := modelOk_iff.1 h
  have := List.mem_of_getElem? hy
  unfold all at this
  rcases List.mem_append.1 this with h | h
  · obtain ⟨c, hc, rfl⟩ := List.mem_map.1 h
    obtain ⟨k, hk⟩ := List.getElem?_of_mem hc
    exact onCard_bd (h6 k c hk) h2
  · obtain ⟨c, hc, rfl⟩ := List.mem_map.1 h
    obtain ⟨k, hk⟩ := List.getElem?_of_mem hc
    have := onTree_bd (x := x) (h7 k c hk)
    omega
theorem mul_bd {w y : Int} (h1 : 0 ≤ w) (h2 : w ≤ 1000) (h3 : -6000000 ≤ y ∧ y ≤ 6000000) : -6000000000 ≤ w * y ∧ w * y ≤ 6000000000 := by
  have a : w * y ≤ w * 6000000 := Int.mul_le_mul_of_nonneg_left h3.2 h1
  have b : w * -6000000 ≤ w * y := Int.mul_le_mul_of_nonneg_left h3.1 h1
  omega
theorem check_ok {m : Model} (h : check m = 0) : modelOk m = true := by
  unfold check at h
  split at h
  · assumption
  · cases h
theorem check_bad {m : Model} (h : ¬ check m = 0) : modelOk m = false := by
  unfold check at h
  split at h
  · exact absurd rfl h
  · rename_i hm; simpa using hm
end S
end Go.Proofs.Ytecmlmngcnionaa
