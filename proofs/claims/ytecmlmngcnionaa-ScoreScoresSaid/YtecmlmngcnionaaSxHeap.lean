/-
  The heap's part of the verifier's library: which worlds keep what, how data is read off memory (Enc, RdS), and slices that a function owns. General: nothing of the program is named here.
-/
import Derived.WalkKit
namespace Go.Sx
open Go Go.RowKit

/-- All blocks but those of M stay; none goes. -/
structure Kp (M : List Nat) (w w' : World) : Prop where
  os : w'.os = w.os
  tape : w'.tape = w.tape
  output : w'.output = w.output
  size : w.heap.size ≤ w'.heap.size
  block : ∀ b, b < w.heap.size → b ∉ M → w'.heap[b]? = w.heap[b]?

/-- All that was there stays as it was. -/
abbrev Ext (w w' : World) : Prop := Kp [] w w'

theorem Kp.refl (M : List Nat) (w : World) : Kp M w w := ⟨rfl, rfl, rfl, Nat.le_refl _, fun _ _ _ => rfl⟩
theorem Kp.trans {M : List Nat} {a b c : World} (h : Kp M a b) (k : Kp M b c) : Kp M a c :=
  ⟨k.os.trans h.os, k.tape.trans h.tape, k.output.trans h.output, Nat.le_trans h.size k.size,
   fun x hx hm => (k.block x (Nat.lt_of_lt_of_le hx h.size) hm).trans (h.block x hx hm)⟩
theorem Kp.mono {M M' : List Nat} {a b : World} (h : Kp M a b) (hs : ∀ x ∈ M, x ∈ M' ∨ a.heap.size ≤ x) : Kp M' a b :=
  ⟨h.os, h.tape, h.output, h.size, fun x hx hm => h.block x hx fun hx' => (hs x hx').elim hm (fun h => absurd hx (by omega))⟩
theorem Ext.kp {M : List Nat} {a b : World} (h : Ext a b) : Kp M a b := h.mono (fun _ hx => by cases hx)
theorem Ext.below {a b : World} (h : Ext a b) : Below a.heap.size a b := ⟨h.os, h.tape, h.output, h.size, fun k hk => h.block k hk (by simp)⟩
theorem Ext.of_below {a b : World} (h : Below a.heap.size a b) : Ext a b := ⟨h.os, h.tape, h.output, h.size, fun k hk _ => h.block k hk⟩
theorem Ext.drew {a b : World} (h : Ext a b) : Ext a { b with drawn := b.drawn + 1 } := ⟨h.os, h.tape, h.output, h.size, h.block⟩
/-- What was made anew behind a may be written. -/
theorem Ext.tail {a b c : World} (h : Ext a b) {M : List Nat} (k : Kp M b c) (hM : ∀ x ∈ M, a.heap.size ≤ x) : Ext a c :=
  ⟨k.os.trans h.os, k.tape.trans h.tape, k.output.trans h.output, Nat.le_trans h.size k.size,
   fun x hx _ => (k.block x (Nat.lt_of_lt_of_le hx h.size) (fun hm => by have := hM x hm; omega)).trans (h.block x hx (by simp))⟩
theorem Kp.tail {a b c : World} {M0 M : List Nat} (h : Kp M0 a b) (k : Kp M b c) (hM : ∀ x ∈ M, x ∈ M0 ∨ a.heap.size ≤ x) : Kp M0 a c :=
  ⟨k.os.trans h.os, k.tape.trans h.tape, k.output.trans h.output, Nat.le_trans h.size k.size,
   fun x hx hm0 => (k.block x (Nat.lt_of_lt_of_le hx h.size) (fun hm => (hM x hm).elim hm0 (fun h => absurd hx (by omega)))).trans (h.block x hx hm0)⟩

theorem Kp.cell {M : List Nat} {w w' : World} (h : Kp M w w') {p : Addr} {v : Value} (hm : p.block ∉ M) (hv : w.cell? p = some v) : w'.cell? p = some v := by
  have hlt : p.block < w.heap.size := by
    rcases Nat.lt_or_ge p.block w.heap.size with h | h
    · exact h
    · simp [World.cell?, Array.getElem?_eq_none h] at hv
  rw [World.cell?_of_block (w := w) (h.block p.block hlt hm)]; exact hv

theorem cell_lt {w : World} {p : Addr} {v : Value} (hv : w.cell? p = some v) : p.block < w.heap.size := by
  rcases Nat.lt_or_ge p.block w.heap.size with h | h
  · exact h
  · simp [World.cell?, Array.getElem?_eq_none h] at hv

theorem Kp.of_grownBy {w w' : World} {row : Option Nat} (h : w.grownBy w' row) {M : List Nat} (hM : ∀ k, row = some k → k ∈ M) : Kp M w w' :=
  ⟨h.os, h.tape, h.output, h.size, fun b hb hm => h.block b hb fun e => hm (hM b e.symm)⟩

theorem Kp.alloc (M : List Nat) (w : World) (o : Obj) : Kp M w (w.alloc o) :=
  ⟨rfl, rfl, rfl, by simp, fun b hb _ => Below.heap_alloc _ _ _ hb⟩
theorem Kp.drew (M : List Nat) (w : World) : Kp M w { w with drawn := w.drawn + 1 } := ⟨rfl, rfl, rfl, Nat.le_refl _, fun _ _ _ => rfl⟩
theorem Kp.setCell (w : World) (a : Addr) (v : Value) {M : List Nat} (h : a.block ∈ M) : Kp M w (w.setCell a v) :=
  ⟨rfl, rfl, rfl, by simp [World.setCell], fun b _ hm => Below.heap_setCell _ _ _ _ (fun e => hm (e ▸ h))⟩

/-- The cells from offset o of block b on are these. -/
def Cells (w : World) (b o : Nat) (cs : List Value) : Prop := ∀ j v, cs[j]? = some v → w.cell? ⟨b, o + j, none⟩ = some v

theorem Cells.kp {M : List Nat} {w w' : World} (h : Kp M w w') {b o : Nat} {cs : List Value} (hb : b ∉ M) (hc : Cells w b o cs) : Cells w' b o cs :=
  fun j v hj => h.cell (p := ⟨b, o + j, none⟩) hb (hc j v hj)
theorem Cells.left {w : World} {b o : Nat} {xs ys : List Value} (h : Cells w b o (xs ++ ys)) : Cells w b o xs := fun j v hj =>
  h j v (by rw [List.getElem?_append_left (by rcases Nat.lt_or_ge j xs.length with h | h; exact h; simp [List.getElem?_eq_none h] at hj)]; exact hj)
theorem Cells.right {w : World} {b o : Nat} {xs ys : List Value} (h : Cells w b o (xs ++ ys)) : Cells w b (o + xs.length) ys := fun j v hj => by
  have := h (xs.length + j) v (by rw [List.getElem?_append_right (by omega)]; simpa using hj)
  rwa [← Nat.add_assoc] at this
theorem Cells.append {w : World} {b o : Nat} {xs ys : List Value} (h : Cells w b o xs) (h' : Cells w b (o + xs.length) ys) : Cells w b o (xs ++ ys) := fun j v hj => by
  rcases Nat.lt_or_ge j xs.length with hl | hl
  · rw [List.getElem?_append_left hl] at hj; exact h j v hj
  · rw [List.getElem?_append_right hl] at hj
    have := h' (j - xs.length) v hj
    rwa [Nat.add_assoc, Nat.add_sub_cancel' hl] at this
theorem Cells.nil (w : World) (b o : Nat) : Cells w b o [] := fun j v hj => by simp at hj
theorem Cells.one {w : World} {b o : Nat} {v : Value} (h : w.cell? ⟨b, o, none⟩ = some v) : Cells w b o [v] := fun j u hj => by
  cases j with
  | zero => simp at hj; subst hj; exact h
  | succ j => simp at hj
theorem Cells.head {w : World} {b o : Nat} {v : Value} {r : List Value} (h : Cells w b o (v :: r)) : w.cell? ⟨b, o, none⟩ = some v := h 0 v rfl

/-- How a datum of type α lies in n cells: reading asks no block of M, and every block that it asks is there. -/
structure Enc (α : Type) where
  n : Nat
  pos : 0 < n
  R : List Nat → World → List Value → α → Prop
  len : ∀ {M w cs x}, R M w cs x → cs.length = n
  kp : ∀ {M w w' cs x}, Kp M w w' → R M w cs x → R M w' cs x
  mon : ∀ {M M' w cs x}, (∀ b ∈ M', b ∈ M ∨ w.heap.size ≤ b) → R M w cs x → R M' w cs x
  one : ∀ {M w cs x}, R M w cs x → ∀ u ∈ cs, u.oneCell' = true

/-- v is a slice that reads as xs. -/
def RdS {α : Type} (E : Enc α) (M : List Nat) (w : World) (v : Value) (xs : List α) : Prop :=
  ∃ (a : Option Addr) (c : Nat), v = .slice a xs.length c ∧ xs.length ≤ c ∧ c ≤ maxLen ∧
    (xs = [] ∨ ∃ b o, a = some ⟨b, o, none⟩ ∧ b ∉ M ∧ b < w.heap.size ∧ ∀ i (h : i < xs.length), ∃ cs, E.R M w cs xs[i] ∧ Cells w b (o + i * E.n) cs)

theorem RdS.kp {α : Type} {E : Enc α} {M : List Nat} {w w' : World} {v : Value} {xs : List α} (h : Kp M w w') (hr : RdS E M w v xs) : RdS E M w' v xs := by
  obtain ⟨a, c, hv, h1, h2, h3⟩ := hr
  refine ⟨a, c, hv, h1, h2, ?_⟩
  rcases h3 with h3 | ⟨b, o, ha, hb, hlt, hc⟩
  · exact .inl h3
  · refine .inr ⟨b, o, ha, hb, Nat.lt_of_lt_of_le hlt h.size, fun i hi => ?_⟩
    obtain ⟨cs, hR, hC⟩ := hc i hi
    exact ⟨cs, E.kp h hR, hC.kp h hb⟩
theorem RdS.mon {α : Type} {E : Enc α} {M M' : List Nat} {w : World} {v : Value} {xs : List α} (hm : ∀ b ∈ M', b ∈ M ∨ w.heap.size ≤ b) (hr : RdS E M w v xs) : RdS E M' w v xs := by
  obtain ⟨a, c, hv, h1, h2, h3⟩ := hr
  refine ⟨a, c, hv, h1, h2, ?_⟩
  rcases h3 with h3 | ⟨b, o, ha, hb, hlt, hc⟩
  · exact .inl h3
  · refine .inr ⟨b, o, ha, fun hbm => (hm b hbm).elim hb (fun h => absurd hlt (by omega)), hlt, fun i hi => ?_⟩
    obtain ⟨cs, hR, hC⟩ := hc i hi
    exact ⟨cs, E.mon hm hR, hC⟩
theorem RdS.len {α : Type} {E : Enc α} {M : List Nat} {w : World} {v : Value} {xs : List α} (hr : RdS E M w v xs) : xs.length ≤ 9223372036854775807 := by
  obtain ⟨a, c, hv, h1, h2, h3⟩ := hr
  have : maxLen = 9223372036854775807 := rfl
  omega
theorem RdS.shape {α : Type} {E : Enc α} {M : List Nat} {w : World} {v : Value} {xs : List α} (hr : RdS E M w v xs) : ∃ a c, v = .slice a xs.length c ∧ xs.length ≤ c ∧ c ≤ 9223372036854775807 := by
  obtain ⟨a, c, hv, h1, h2, h3⟩ := hr
  exact ⟨a, c, hv, h1, h2⟩
theorem RdS.nil {α : Type} (E : Enc α) (M : List Nat) (w : World) : RdS E M w (.slice none 0 0) [] := ⟨none, 0, rfl, Nat.le_refl _, Nat.zero_le _, .inl rfl⟩
theorem RdS.at {α : Type} {E : Enc α} {M : List Nat} {w : World} {v : Value} {xs : List α} (hr : RdS E M w v xs) (i : Nat) (hi : i < xs.length) :
    ∃ b o c cs, v = .slice (some ⟨b, o, none⟩) xs.length c ∧ b ∉ M ∧ b < w.heap.size ∧ E.R M w cs xs[i] ∧ Cells w b (o + i * E.n) cs := by
  obtain ⟨a, c, hv, h1, h2, h3⟩ := hr
  rcases h3 with h3 | ⟨b, o, ha, hb, hlt, hc⟩
  · subst h3; simp at hi
  · obtain ⟨cs, hR, hC⟩ := hc i hi
    exact ⟨b, o, c, cs, by rw [hv, ha], hb, hlt, hR, hC⟩

/-- A number fits its kind. -/
def InK (k : IntKind) (x : Int) : Prop := k.min ≤ x ∧ x ≤ k.max
theorem InK.i64 {x : Int} : InK .i64 x ↔ -9223372036854775808 ≤ x ∧ x ≤ 9223372036854775807 := by simp [InK, IntKind.min, IntKind.max, IntKind.signed, IntKind.bits]
theorem InK.u8 {x : Int} : InK .u8 x ↔ 0 ≤ x ∧ x ≤ 255 := by simp [InK, IntKind.min, IntKind.max, IntKind.signed, IntKind.bits]
theorem InK.u16 {x : Int} : InK .u16 x ↔ 0 ≤ x ∧ x ≤ 65535 := by simp [InK, IntKind.min, IntKind.max, IntKind.signed, IntKind.bits]
theorem InK.u32 {x : Int} : InK .u32 x ↔ 0 ≤ x ∧ x ≤ 4294967295 := by simp [InK, IntKind.min, IntKind.max, IntKind.signed, IntKind.bits]

/-- From (M, w) to (M', w'): blocks outside of M stay; what is new in M' was not there. -/
structure Adv (M M' : List Nat) (w w' : World) : Prop where
  kp : Kp M w w'
  new : ∀ b ∈ M', b ∈ M ∨ w.heap.size ≤ b
theorem Adv.refl (M : List Nat) (w : World) : Adv M M w w := ⟨Kp.refl _ _, fun _ h => .inl h⟩
theorem Adv.trans {M M' M'' : List Nat} {a b c : World} (h : Adv M M' a b) (k : Adv M' M'' b c) : Adv M M'' a c := by
  refine ⟨⟨k.kp.os.trans h.kp.os, k.kp.tape.trans h.kp.tape, k.kp.output.trans h.kp.output, Nat.le_trans h.kp.size k.kp.size, fun x hx hm => ?_⟩, fun x hx => ?_⟩
  · refine (k.kp.block x (Nat.lt_of_lt_of_le hx h.kp.size) fun hm' => ?_).trans (h.kp.block x hx hm)
    rcases h.new x hm' with h1 | h1
    · exact hm h1
    · omega
  · rcases k.new x hx with h1 | h1
    · exact h.new x h1
    · exact .inr (Nat.le_trans h.kp.size h1)
theorem Adv.of_ext {M : List Nat} {a b : World} (h : Ext a b) : Adv M M a b := ⟨h.kp, fun _ h => .inl h⟩
theorem Adv.drop {M M' : List Nat} {w : World} (h : ∀ b ∈ M', b ∈ M) : Adv M M' w w := ⟨Kp.refl _ _, fun b hb => .inl (h b hb)⟩
/-- A new block that will be written. -/
theorem Adv.fresh {M : List Nat} {w w' : World} {b : Nat} (h : Ext w w') (hb : b = w.heap.size) : Adv M (b :: M) w w' := ⟨h.kp, fun x hx => by
  rcases List.mem_cons.1 hx with h | h
  · right; omega
  · exact .inl h⟩
/-- A write to a block of M. -/
theorem Adv.write {M : List Nat} {w w' : World} {b : Nat} (h : Kp [b] w w') (hb : b ∈ M) : Adv M M w w' := ⟨h.mono (fun x hx => by simp at hx; subst hx; exact .inl hb), fun _ h => .inl h⟩
theorem Adv.pop {M : List Nat} {w : World} {b : Nat} : Adv (b :: M) M w w := Adv.drop fun _ h => List.mem_cons_of_mem _ h
/-- All blocks of M are there. -/
def MLt (M : List Nat) (w : World) : Prop := ∀ b ∈ M, b < w.heap.size
theorem MLt.ext {M M0 : List Nat} {w w' : World} (h : MLt M w) (e : Kp M0 w w') : MLt M w' := fun b hb => Nat.lt_of_lt_of_le (h b hb) e.size
theorem MLt.cons {M M0 : List Nat} {w w' : World} {b : Nat} (h : MLt M w) (e : Kp M0 w w') (hb : b < w'.heap.size) : MLt (b :: M) w' := fun x hx => by
  rcases List.mem_cons.1 hx with h1 | h1
  · omega
  · exact h.ext e x h1
theorem MLt.tail {M : List Nat} {w : World} {b : Nat} (h : MLt (b :: M) w) : MLt M w := fun x hx => h x (List.mem_cons_of_mem _ hx)
theorem MLt.nil (w : World) : MLt [] w := fun _ h => by cases h
theorem RdS.adv {α : Type} {E : Enc α} {M M' : List Nat} {w w' : World} {v : Value} {xs : List α} (hr : RdS E M w v xs) (h : Adv M M' w w') : RdS E M' w' v xs :=
  (hr.mon (M' := M ++ M') (fun b hb => by
    rcases List.mem_append.1 hb with hb | hb
    · exact .inl hb
    · exact h.new b hb)).kp (h.kp.mono fun x hx => .inl (List.mem_append.2 (.inl hx))) |>.mon fun b hb => .inl (List.mem_append.2 (.inr hb))
theorem Enc.adv {α : Type} (E : Enc α) {M M' : List Nat} {w w' : World} {cs : List Value} {x : α} (hr : E.R M w cs x) (h : Adv M M' w w') : E.R M' w' cs x :=
  E.mon (fun b hb => .inl (List.mem_append.2 (.inr hb))) (E.kp (h.kp.mono fun x hx => .inl (List.mem_append.2 (.inl hx))) (E.mon (M' := M ++ M') (fun b hb => by
    rcases List.mem_append.1 hb with hb | hb
    · exact .inl hb
    · exact h.new b hb) hr))
/-- The cells from o of block b on, which is there and is not of M, are these. -/
structure RdC (M : List Nat) (w : World) (b o : Nat) (cs : List Value) : Prop where
  out : b ∉ M
  lt : b < w.heap.size
  cells : Cells w b o cs
theorem RdC.adv {M M' : List Nat} {w w' : World} {b o : Nat} {cs : List Value} (hr : RdC M w b o cs) (h : Adv M M' w w') : RdC M' w' b o cs :=
  ⟨fun hb => (h.new b hb).elim hr.out (fun h => absurd hr.lt (by omega)), Nat.lt_of_lt_of_le hr.lt h.kp.size, hr.cells.kp h.kp hr.out⟩
theorem RdS.oneC {α : Type} {E : Enc α} {M : List Nat} {w : World} {v : Value} {xs : List α} (hr : RdS E M w v xs) : v.oneCell' = true := by
  obtain ⟨a, c, rfl, _⟩ := hr; rfl
theorem one0 : ∀ u ∈ ([] : List Value), u.oneCell' = true := fun _ h => by cases h
theorem one1 {v : Value} {r : List Value} (h : v.oneCell' = true) (hr : ∀ u ∈ r, u.oneCell' = true) : ∀ u ∈ v :: r, u.oneCell' = true := fun u hu => by
  rcases List.mem_cons.1 hu with h1 | h1
  · rw [h1]; exact h
  · exact hr u h1

def intE (k : IntKind) : Enc Int where
  n := 1
  pos := by decide
  R := fun _ _ cs x => cs = [.int k x] ∧ InK k x
  len := fun h => by rw [h.1]; rfl
  kp := fun _ h => h
  mon := fun _ h => h
  one := fun h u hu => by rw [h.1] at hu; simp at hu; subst hu; rfl
def boolE : Enc Bool where
  n := 1
  pos := by decide
  R := fun _ _ cs x => cs = [.bool x]
  len := fun h => by rw [h]; rfl
  kp := fun _ h => h
  mon := fun _ h => h
  one := fun h u hu => by rw [h] at hu; simp at hu; subst hu; rfl
def sliceE {α : Type} (E : Enc α) : Enc (List α) where
  n := 1
  pos := by decide
  R := fun M w cs x => ∃ v, cs = [v] ∧ RdS E M w v x
  len := fun ⟨v, h, _⟩ => by rw [h]; rfl
  kp := fun hk ⟨v, h, hr⟩ => ⟨v, h, hr.kp hk⟩
  mon := fun hm ⟨v, h, hr⟩ => ⟨v, h, hr.mon hm⟩
  one := fun ⟨v, h, hr⟩ u hu => by
    rw [h] at hu; simp at hu; subst hu
    obtain ⟨a, c, rfl, _⟩ := hr
    rfl
def prodE {α β : Type} (E : Enc α) (F : Enc β) : Enc (α × β) where
  n := E.n + F.n
  pos := by have := E.pos; omega
  R := fun M w cs x => ∃ c1 c2, cs = c1 ++ c2 ∧ E.R M w c1 x.1 ∧ F.R M w c2 x.2
  len := fun ⟨c1, c2, h, h1, h2⟩ => by rw [h, List.length_append, E.len h1, F.len h2]
  kp := fun hk ⟨c1, c2, h, h1, h2⟩ => ⟨c1, c2, h, E.kp hk h1, F.kp hk h2⟩
  mon := fun hm ⟨c1, c2, h, h1, h2⟩ => ⟨c1, c2, h, E.mon hm h1, F.mon hm h2⟩
  one := fun ⟨c1, c2, h, h1, h2⟩ u hu => by
    rw [h, List.mem_append] at hu
    exact hu.elim (E.one h1 u) (F.one h2 u)
def mapE {α β : Type} (f : β → α) (E : Enc α) : Enc β where
  n := E.n
  pos := E.pos
  R := fun M w cs x => E.R M w cs (f x)
  len := fun h => E.len h
  kp := fun hk h => E.kp hk h
  mon := fun hm h => E.mon hm h
  one := fun h => E.one h

@[simp] theorem intE_n (k : IntKind) : (intE k).n = 1 := rfl
@[simp] theorem boolE_n : boolE.n = 1 := rfl
@[simp] theorem sliceE_n {α : Type} (E : Enc α) : (sliceE E).n = 1 := rfl
@[simp] theorem prodE_n {α β : Type} (E : Enc α) (F : Enc β) : (prodE E F).n = E.n + F.n := rfl
@[simp] theorem mapE_n {α β : Type} (f : β → α) (E : Enc α) : (mapE f E).n = E.n := rfl
theorem intE_R {k : IntKind} {M : List Nat} {w : World} {cs : List Value} {x : Int} : (intE k).R M w cs x ↔ cs = [.int k x] ∧ InK k x := Iff.rfl
theorem boolE_R {M : List Nat} {w : World} {cs : List Value} {x : Bool} : boolE.R M w cs x ↔ cs = [.bool x] := Iff.rfl
theorem sliceE_R {α : Type} {E : Enc α} {M : List Nat} {w : World} {cs : List Value} {x : List α} : (sliceE E).R M w cs x ↔ ∃ v, cs = [v] ∧ RdS E M w v x := Iff.rfl
theorem prodE_R {α β : Type} {E : Enc α} {F : Enc β} {M : List Nat} {w : World} {cs : List Value} {x : α × β} :
    (prodE E F).R M w cs x ↔ ∃ c1 c2, cs = c1 ++ c2 ∧ E.R M w c1 x.1 ∧ F.R M w c2 x.2 := Iff.rfl
theorem mapE_R {α β : Type} {f : β → α} {E : Enc α} {M : List Nat} {w : World} {cs : List Value} {x : β} : (mapE f E).R M w cs x ↔ E.R M w cs (f x) := Iff.rfl

end Go.Sx
