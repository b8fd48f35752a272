/-
  More operations: literals of slices, make, cuts of slices, stores into slices of the function's own, function values, methods behind an interface, min and max, structs held against each other. General: nothing of the program is named here.
-/
import Derived.Test.YtecmlmngcnionaaSxOwn
namespace Go.Sx
open Go Go.RowKit

section
variable {P : Program} {N : Nat} {ops : Array Oper} {q : Md} {rest : List Oper} {ds : List Deferred} {L : Env} {w : World} {A B : Out} {X : Nat → Out} {Z : List PanicEntry → Out}
variable {d : Nat} {ty : TypeId} {pos : String} {af : Array Edge}

/-! structs -/
theorem s_eqS {t t' : TypeId} {x y : Operand} {xs ys : List Value} {b : Bool} (he : ∀ w, (Op.equalIn 10000 t (.agg xs.toArray) (.agg ys.toArray)).run P w = .ok b w) (hg : P.eqGuardType P.depth t = false) (hx : ev L x = some (.agg xs.toArray)) (hy : ev L y = some (.agg ys.toArray))
    (hN : Nat.blt d N = true) (h : Reg P N ops q rest ds ((d, .bool b) :: L) w A B X Z) : Reg P N ops q (⟨some d, .binOp .eql t x y t', ty, pos, af, none⟩ :: rest) ds L w A B X Z :=
  Reg.val _ rfl rfl hN (fun a ha w' _ => by simp [execOp, ha.eval hx, ha.eval hy, run_eqGuard_agg w' .eql t x y xs.toArray ys.toArray hg, run_eql_struct, he]) h
theorem s_neS {t t' : TypeId} {x y : Operand} {xs ys : List Value} {b : Bool} (he : ∀ w, (Op.equalIn 10000 t (.agg xs.toArray) (.agg ys.toArray)).run P w = .ok b w) (hg : P.eqGuardType P.depth t = false) (hx : ev L x = some (.agg xs.toArray)) (hy : ev L y = some (.agg ys.toArray))
    (hN : Nat.blt d N = true) (h : Reg P N ops q rest ds ((d, .bool (!b)) :: L) w A B X Z) : Reg P N ops q (⟨some d, .binOp .neq t x y t', ty, pos, af, none⟩ :: rest) ds L w A B X Z :=
  Reg.val _ rfl rfl hN (fun a ha w' _ => by simp [execOp, ha.eval hx, ha.eval hy, run_eqGuard_agg w' .neq t x y xs.toArray ys.toArray hg, run_neq_struct, he]) h
/-- A field of a struct's value: a struct. -/
theorem s_fdA {s : TypeId} {x : Operand} {f n : Nat} {cs : List Value} {fields : Array Field} {fl : Field} (hx : ev L x = some (.agg cs.toArray)) (hs : P.underlying s = some (.struct fields)) (hf : fields[f]? = some fl)
    (he : ∀ w, (isAgg fl.type).run P w = .ok true w) (hz : ∀ w, (sizeOf fl.type).run P w = .ok n w) (hN : Nat.blt d N = true)
    (h : Reg P N ops q rest ds ((d, .agg ((cs.drop fl.offset).take n).toArray) :: L) w A B X Z) : Reg P N ops q (⟨some d, .field s x f, ty, pos, af, none⟩ :: rest) ds L w A B X Z :=
  Reg.val _ rfl rfl hN (fun a ha w' _ => by simp [execOp, ha.eval hx, Instr.field, run_underlying hs, hf, asAgg, part, he, hz, List.extract_eq_take_drop]) h

/-! min, max -/
theorem s_min {x y : Operand} {k k' : IntKind} {i j : Int} {ts : Array TypeId} (hx : ev L x = some (.int k i)) (hy : ev L y = some (.int k' j)) (hN : Nat.blt d N = true)
    (h : Reg P N ops q rest ds ((d, .int k (min i j)) :: L) w A B X Z) : Reg P N ops q (⟨some d, .call ⟨.builtin .min, #[x, y], ts⟩, ty, pos, af, none⟩ :: rest) ds L w A B X Z :=
  Reg.val _ rfl rfl hN (fun a ha w' _ => by
    have e : (if j < i then j else i) = min i j := by omega
    simp [execOp, resolve, invoke, builtin, ha.eval hx, ha.eval hy, run_min_int2, e]) h
theorem s_max {x y : Operand} {k k' : IntKind} {i j : Int} {ts : Array TypeId} (hx : ev L x = some (.int k i)) (hy : ev L y = some (.int k' j)) (hN : Nat.blt d N = true)
    (h : Reg P N ops q rest ds ((d, .int k (max i j)) :: L) w A B X Z) : Reg P N ops q (⟨some d, .call ⟨.builtin .max, #[x, y], ts⟩, ty, pos, af, none⟩ :: rest) ds L w A B X Z :=
  Reg.val _ rfl rfl hN (fun a ha w' _ => by
    have e : (if j > i then j else i) = max i j := by omega
    simp [execOp, resolve, invoke, builtin, ha.eval hx, ha.eval hy, run_max_int2, e]) h

/-! cuts of slices -/
theorem RdS.take {α : Type} {E : Enc α} {M : List Nat} {w : World} {a : Option Addr} {n c : Nat} {xs : List α} (hr : RdS E M w (.slice a n c) xs) (k : Nat) (hk : k ≤ xs.length) : RdS E M w (.slice a k c) (xs.take k) := by
  obtain ⟨a', c', he, h1, h2, h3⟩ := hr
  cases he
  refine ⟨a, c, by simp [Nat.min_eq_left hk], by simp; omega, h2, ?_⟩
  rcases h3 with rfl | ⟨b, o, rfl, hb, hlt, hc⟩
  · exact .inl (by simp)
  · exact .inr ⟨b, o, rfl, hb, hlt, fun i hi => by simpa using hc i (by simp at hi; omega)⟩
theorem RdS.drop {α : Type} {E : Enc α} {M : List Nat} {w : World} {a : Option Addr} {n c : Nat} {xs : List α} (hr : RdS E M w (.slice a n c) xs) (k : Nat) (hk : k ≤ xs.length) :
    RdS E M w (.slice (if c = k then a else a.map (·.add (k * E.n))) (n - k) (c - k)) (xs.drop k) := by
  obtain ⟨a', c', he, h1, h2, h3⟩ := hr
  cases he
  refine ⟨if c = k then a else a.map (·.add (k * E.n)), c - k, by simp, by simp; omega, by simp only [maxLen] at h2 ⊢; omega, ?_⟩
  rcases h3 with rfl | ⟨b, o, rfl, hb, hlt, hc⟩
  · exact .inl (by simp)
  · by_cases hck : c = k
    · left
      have : xs.length = k := by omega
      exact List.drop_eq_nil_of_le (by omega)
    · right
      refine ⟨b, o + k * E.n, by simp [hck, add_none], hb, hlt, fun i hi => ?_⟩
      obtain ⟨cs, hR, hC⟩ := hc (k + i) (by simp at hi; omega)
      refine ⟨cs, by simpa using hR, ?_⟩
      have e : o + k * E.n + i * E.n = o + (k + i) * E.n := by rw [Nat.add_mul]; omega
      rw [e]; exact hC
/-- x[:h] -/
theorem s_slH {α : Type} {E : Enc α} {M : List Nat} {t e : TypeId} {x y : Operand} {v : Value} {xs : List α} {k : IntKind} {i : Int} (hx : ev L x = some v) (hy : ev L y = some (.int k i)) (hv : RdS E M w v xs) (hi : 0 ≤ i ∧ i ≤ xs.length)
    (ht : P.underlying t = some (.slice e)) (hs : ∀ w, (sizeOf e).run P w = .ok E.n w) (hN : Nat.blt d N = true)
    (h : ∀ v', RdS E M w v' (xs.take i.toNat) → ob v' = ob v → Reg P N ops q rest ds ((d, v') :: L) w A B X Z) :
    Reg P N ops q (⟨some d, .slice t x none (some y) none, ty, pos, af, none⟩ :: rest) ds L w A B X Z := by
  obtain ⟨a, c, rfl, h1, h2⟩ := hv.shape
  have ht' : P.underlying t = some (.slice (P.elem t)) := by simp [Program.elem, ht]
  have he : P.elem t = e := by simp [Program.elem, ht]
  have hval : sliced a 0 i.toNat c E.n = .slice a i.toNat c := by
    simp only [sliced, Nat.zero_mul, Nat.sub_zero]
    congr 1
    split
    · rfl
    · cases a <;> simp [Addr.add]
  refine Reg.val (.slice a i.toNat c) rfl rfl hN (fun a' ha w' _ => ?_) (h _ (hv.take i.toNat (by omega)) (by cases a <;> cases c <;> rfl))
  have hr := run_slice_h (P := P) w' t a xs.length c ht' k i hi.1 (by omega)
  simp [execOp, ha.eval hx, ha.eval hy, run_sliceAt_slice w' t _ _ _ _ ht', hr, he, hs, hval]
/-- x[l:] -/
theorem s_slL {α : Type} {E : Enc α} {M : List Nat} {t e : TypeId} {x y : Operand} {v : Value} {xs : List α} {k : IntKind} {i : Int} (hx : ev L x = some v) (hy : ev L y = some (.int k i)) (hv : RdS E M w v xs) (hi : 0 ≤ i ∧ i ≤ xs.length)
    (ht : P.underlying t = some (.slice e)) (hs : ∀ w, (sizeOf e).run P w = .ok E.n w) (hN : Nat.blt d N = true)
    (h : ∀ v', RdS E M w v' (xs.drop i.toNat) → Reg P N ops q rest ds ((d, v') :: L) w A B X Z) :
    Reg P N ops q (⟨some d, .slice t x (some y) none none, ty, pos, af, none⟩ :: rest) ds L w A B X Z := by
  obtain ⟨a, c, rfl, h1, h2⟩ := hv.shape
  have ht' : P.underlying t = some (.slice (P.elem t)) := by simp [Program.elem, ht]
  have he : P.elem t = e := by simp [Program.elem, ht]
  refine Reg.val _ rfl rfl hN (fun a' ha w' _ => ?_) (h _ (hv.drop i.toNat (by omega)))
  have hr := run_slice_l (P := P) w' t a xs.length c ht' k i hi.1 (by omega)
  simp [execOp, ha.eval hx, ha.eval hy, run_sliceAt_slice w' t _ _ _ _ ht', hr, he, hs, sliced]

/-! function values -/
/-- A call of a function's value. -/
def CallsV (P : Program) (vf : Value) (args : List Value) (w : World) (R : Ending → World → Prop) : Prop :=
  ∃ g caps, vf = .func (.func g) #[] caps ∧ (∀ args w, (callFunc g args).run P w = .ok (.enter g args) w) ∧ Calls P g (args.toArray ++ caps) w R
theorem CallsV.mono {vf : Value} {args : List Value} {R R' : Ending → World → Prop} (h : CallsV P vf args w R) (hr : ∀ e w', R e w' → R' e w') : CallsV P vf args w R' := by
  obtain ⟨g, caps, h1, h2, h3⟩ := h
  exact ⟨g, caps, h1, h2, h3.mono hr⟩
theorem CallsV.of {g : Nat} {caps : Array Value} {args : List Value} {R : Ending → World → Prop} (h2 : ∀ args w, (callFunc g args).run P w = .ok (.enter g args) w) (h3 : Calls P g (args.toArray ++ caps) w R) : CallsV P (.func (.func g) #[] caps) args w R := ⟨g, caps, rfl, h2, h3⟩
theorem s_mf {g : Nat} {xs : List Operand} {vs : List Value} (hvs : evs L xs = some vs) (hN : Nat.blt d N = true) (h : Reg P N ops q rest ds ((d, .func (.func g) #[] vs.toArray) :: L) w A B X Z) :
    Reg P N ops q (⟨some d, .makeFunc (.func g) #[] xs.toArray, ty, pos, af, none⟩ :: rest) ds L w A B X Z :=
  Reg.val _ rfl rfl hN (fun a ha w' _ => by
    have := evs_map ha xs vs hvs
    simp [execOp, Instr.makeFunc, this]) h
theorem s_callV {f : Operand} {xs : List Operand} {vs : List Value} {ts : Array TypeId} {vf : Value} (hf : ev L f = some vf) (hvs : evs L xs = some vs) (hN : Nat.blt d N = true)
    (h : CallsV P vf vs w fun e w' => ∃ v, e = .returned v ∧ Reg P N ops .seq rest ds ((d, v) :: L) w' A B X Z) :
    Reg P N ops .seq (⟨some d, .call ⟨.value f, xs.toArray, ts⟩, ty, pos, af, none⟩ :: rest) ds L w A B X Z := by
  obtain ⟨g, caps, rfl, h2, h3⟩ := h
  refine Reg.call (f := g) (args := vs.toArray ++ caps) rfl rfl hN (fun a ha => ?_) h3
  have := evs_map ha xs vs hvs
  simp [execOp, resolve, ha.eval hf, Deferred.ofValue, invoke, h2, this]
theorem s_callV0 {f : Operand} {xs : List Operand} {vs : List Value} {ts : Array TypeId} {vf : Value} (hf : ev L f = some vf) (hvs : evs L xs = some vs)
    (h : CallsV P vf vs w fun e w' => ∃ v, e = .returned v ∧ Reg P N ops .seq rest ds L w' A B X Z) :
    Reg P N ops .seq (⟨none, .call ⟨.value f, xs.toArray, ts⟩, ty, pos, af, none⟩ :: rest) ds L w A B X Z := by
  obtain ⟨g, caps, rfl, h2, h3⟩ := h
  refine Reg.call0 (f := g) (args := vs.toArray ++ caps) rfl rfl (fun a ha => ?_) h3
  have := evs_map ha xs vs hvs
  simp [execOp, resolve, ha.eval hf, Deferred.ofValue, invoke, h2, this]

/-! methods behind an interface -/
theorem s_mi {t : TypeId} {x : Operand} {v : Value} {du : TypeDesc} (hx : ev L x = some v) (hc : P.concrete t = true) (hN : Nat.blt d N = true) (h : Reg P N ops q rest ds ((d, .iface t v) :: L) w A B X Z) :
    Reg P N ops q (⟨some d, .makeInterface t x, ty, pos, af, none⟩ :: rest) ds L w A B X Z :=
  Reg.val _ rfl rfl hN (fun a ha w' _ => by simp [execOp, ha.eval hx, run_makeInterface w' t v hc]) h
/-- What a method of an interface's value is. -/
def Meth (P : Program) (v : Value) (name : String) (f : Nat) (recv : Value) : Prop :=
  ∃ t u, v = .iface t u ∧ (∀ w, (method (P.types.size + Made.depth) t u name).run P w = .ok (f, recv) w) ∧ (∀ args w, (callFunc f args).run P w = .ok (.enter f args) w)
theorem s_inv {r : Operand} {name : String} {xs : List Operand} {vs : List Value} {ts : Array TypeId} {v recv : Value} {f : Nat} (hr : ev L r = some v) (hvs : evs L xs = some vs) (hm : Meth P v name f recv) (hN : Nat.blt d N = true)
    (h : Calls P f (recv :: vs).toArray w fun e w' => ∃ v, e = .returned v ∧ Reg P N ops .seq rest ds ((d, v) :: L) w' A B X Z) :
    Reg P N ops .seq (⟨some d, .call ⟨.invoke r name, xs.toArray, ts⟩, ty, pos, af, none⟩ :: rest) ds L w A B X Z := by
  obtain ⟨t, u, rfl, hm, hf⟩ := hm
  refine Reg.call (f := f) (args := (recv :: vs).toArray) rfl rfl hN (fun a ha => ?_) h
  have := evs_map ha xs vs hvs
  simp [execOp, resolve, ha.eval hr, invoke, callMethod, hm, hf, this]

/-! literals of slices -/
theorem foldl_zip (off : Nat) : ∀ (cs : List Value) (j : Nat) (pre suf : List Value), off + j = pre.length → cs.length ≤ suf.length →
    ((cs.zipIdx j).foldl (fun acc (x : Value × Nat) => acc.setIfInBounds (off + x.2) x.1) (pre ++ suf).toArray) = (pre ++ cs ++ suf.drop cs.length).toArray
  | [], j, pre, suf, _, _ => by simp
  | c :: cs, j, pre, suf, h, hl => by
    match suf, hl with
    | x :: suf, hl =>
      have hset : ((pre ++ x :: suf).toArray.setIfInBounds (off + j) c) = ((pre ++ [c]) ++ suf).toArray := by
        rw [h]
        simp
      simp only [List.zipIdx_cons, List.foldl_cons, hset]
      rw [foldl_zip off cs (j + 1) (pre ++ [c]) suf (by simp; omega) (by simp at hl; omega)]
      simp
/-- The cells of values. -/
def Cls : List Value → List (List Value) → Prop
  | [], [] => True
  | v :: vs, c :: cs => v.cells = c.toArray ∧ Cls vs cs
  | _, _ => False
def Chs {α : Type} (E : Enc α) (M : List Nat) (w : World) : List (List Value) → List α → Prop
  | [], [] => True
  | c :: cs, x :: xs => E.R M w c x ∧ Chs E M w cs xs
  | _, _ => False
theorem Chs.chunks {α : Type} {E : Enc α} {M : List Nat} {w : World} : ∀ {css : List (List Value)} {xs : List α}, Chs E M w css xs → Chunks E M w css.flatten xs
  | [], [], _ => rfl
  | c :: cs, x :: xs, ⟨h, hr⟩ => ⟨c, cs.flatten, rfl, h, Chs.chunks hr⟩
  | [], _ :: _, h => h.elim
  | _ :: _, [], h => h.elim
theorem Chs.len {α : Type} {E : Enc α} {M : List Nat} {w : World} : ∀ {css : List (List Value)} {xs : List α}, Chs E M w css xs → css.length = xs.length ∧ ∀ c ∈ css, c.length = E.n
  | [], [], _ => ⟨rfl, fun _ h => by cases h⟩
  | c :: cs, x :: xs, ⟨h, hr⟩ => by
    obtain ⟨h1, h2⟩ := Chs.len hr
    refine ⟨by simp [h1], fun c' hc' => ?_⟩
    rcases List.mem_cons.1 hc' with rfl | hc'
    · exact E.len h
    · exact h2 c' hc'
  | [], _ :: _, h => h.elim
  | _ :: _, [], h => h.elim
theorem fill_all (size : Nat) : ∀ (vs : List Value) (css : List (List Value)) (k : Nat) (pre suf : List Value), Cls vs css → (∀ c ∈ css, c.length = size) → pre.length = k * size → suf.length = css.length * size →
    Instr.fill (fun i => some (i * size, size)) (pre ++ suf).toArray ((List.range' k vs.length).zip vs) = some (pre ++ css.flatten).toArray
  | [], [], k, pre, suf, _, _, _, h => by
    have : suf = [] := List.eq_nil_of_length_eq_zero (by simpa using h)
    simp [Instr.fill, this]
  | v :: vs, c :: css, k, pre, suf, ⟨hv, hc⟩, hs, hp, hl => by
    have hcl : c.length = size := hs c (by simp)
    have hsuf : size ≤ suf.length := by rw [hl]; simp [Nat.add_mul]
    have h1 : ¬ (c.length ≠ size ∨ (pre ++ suf).length < k * size + c.length) := by
      simp; constructor
      · exact hcl
      · omega
    have hfold := foldl_zip (k * size) c 0 pre suf (by omega) (by omega)
    have ih := fill_all size vs css (k + 1) (pre ++ c) (suf.drop c.length) hc (fun c' hc' => hs c' (List.mem_cons_of_mem _ hc')) (by simp [hp, hcl, Nat.add_mul]) (by simp [hl, hcl, Nat.add_mul])
    simp only [List.length_cons, List.range'_succ, List.zip_cons_cons, Instr.fill, hv]
    rw [if_neg (by simpa using h1)]
    rw [← Array.foldl_toList]
    simp only [Array.toList_zipIdx]
    rw [hfold, ih]
    simp
  | [], _ :: _, _, _, _, h, _, _, _ => h.elim
  | _ :: _, [], _, _, _, h, _, _, _ => h.elim
theorem s_bs {α : Type} {E : Enc α} {t e bytes : Nat} (T : SlT P t e E.n bytes) {Bb : Nat} {M : List Nat} {parts : List (Nat × Operand)} {vs : List Value} {css : List (List Value)} {xs : List α} {n : Nat}
    (hi : parts.map (·.1) = List.range n) (hvs : evs L (parts.map (·.2)) = some vs) (hc : Cls vs css) (hx : Chs E M w css xs) (hM : MLt M w) (hB : Bb ≤ w.heap.size) (hn : Nat.ble (n * E.n) 16777216 = true) (hN : Nat.blt d N = true)
    (h : ∀ v' w', Ext w w' → Own E e Bb M w' v' xs → RdS E M w' v' xs → (∀ b ∈ ob v', w.heap.size ≤ b) → Reg P N ops .seq rest ds ((d, v') :: L) w' A B X Z) :
    Reg P N ops .seq (⟨some d, .buildSlice t n parts.toArray, ty, pos, af, none⟩ :: rest) ds L w A B X Z := by
  obtain ⟨i, z, hi0, hz, hs, hb, hzs⟩ := T.info
  obtain ⟨hl1, hl2⟩ := hx.len
  have hlen : ∀ (vs : List Value) (css : List (List Value)), Cls vs css → vs.length = css.length := by
    intro vs
    induction vs with
    | nil => intro css h; cases css with | nil => rfl | cons _ _ => exact h.elim
    | cons v vs ih => intro css h; cases css with | nil => exact h.elim | cons c css => simp [ih css h.2]
  have hvl := hlen vs css hc
  have hpl : parts.length = n := by have := congrArg List.length hi; simpa using this
  have hevl : ∀ (xs : List Operand) (vs : List Value), evs L xs = some vs → xs.length = vs.length := by
    intro xs
    induction xs with
    | nil => intro vs h; simp [evs] at h; subst h; rfl
    | cons x xs ih =>
      intro vs h
      simp only [evs] at h
      split at h
      · split at h
        · rename_i us hu
          cases h
          simp [ih us hu]
        · cases h
      · cases h
  have hnv : n = vs.length := by have := hevl _ _ hvs; simp at this; omega
  have hflat : css.flatten.length = n * i.size := by
    have : ∀ (l : List (List Value)), (∀ c ∈ l, c.length = E.n) → l.flatten.length = l.length * E.n := by
      intro l
      induction l with
      | nil => intro _; simp
      | cons c l ih => intro h; simp [h c (by simp), ih fun c' hc' => h c' (List.mem_cons_of_mem _ hc'), Nat.add_mul]; omega
    rw [this css hl2, hs, hnv, hvl]
  have hn' : ¬ (2 ^ 24 < n * i.size) := by have := Nat.le_of_ble_eq_true hn; rw [hs]; omega
  have hxl : xs.length = n := by omega
  have hown : Own E e Bb M (w.alloc (.cells css.flatten.toArray e)) (.slice (some ⟨w.heap.size, 0, none⟩) n n) xs := by
    cases n with
    | zero => exact .inl ⟨_, rfl, List.eq_nil_of_length_eq_zero hxl⟩
    | succ m =>
      refine .inr ⟨w.heap.size, m, css.flatten.toArray, by rw [hxl], hB, heap_alloc_new w _, by omega, ?_, by simp [hflat, hs], ?_⟩
      · have := Nat.le_of_ble_eq_true hn
        have := E.pos
        have : (m + 1) ≤ (m + 1) * E.n := Nat.le_mul_of_pos_right (m + 1) E.pos
        simp only [maxLen]; omega
      · rw [hxl, show css.flatten.toArray.toList = css.flatten from rfl, List.take_of_length_le (by rw [hflat, hs]; exact Nat.le_refl _)]
        refine Chunks.adv ⟨Kp.alloc _ _ _, fun b hb => ?_⟩ hx.chunks
        rcases List.mem_cons.1 hb with rfl | hb
        · exact .inr (Nat.le_refl _)
        · exact .inl hb
  have hnew : ∀ b ∈ ob (.slice (some ⟨w.heap.size, 0, none⟩) n n), w.heap.size ≤ b := fun b hb => by
    cases n with
    | zero => cases hb
    | succ m =>
      have : b = w.heap.size := by simpa [ob] using hb
      omega
  refine Reg.eff (.slice (some ⟨w.heap.size, 0, none⟩) n n) (w.alloc (.cells css.flatten.toArray e)) rfl rfl hN (fun a ha => ?_) (h _ _ (Kp.alloc _ _ _) hown (hown.rd fun b hb hm => by have := hnew b hb; have := hM b hm; omega) hnew)
  · have hmap := evs_map ha _ _ hvs
    have hparts : (parts.map fun (p : Nat × Operand) => (p.1, a.eval p.2)) = (List.range n).zip vs := by
      rw [← hi, ← hmap, List.map_map, List.zip_map']
      rfl
    have hfill : ∀ zc : Array Value, zc.size = n * i.size → Instr.fill (fun j => some (j * i.size, i.size)) zc ((List.range n).zip vs) = some css.flatten.toArray := fun zc hzc => by
      have := fill_all i.size vs css 0 [] zc.toList hc (fun c hc' => by rw [hs]; exact hl2 c hc') (by simp) (by rw [Array.length_toList, hzc, hnv, hvl])
      rw [List.range_eq_range', hnv]
      simpa using this
    by_cases h0 : n * i.size = 0
    · have hf := hfill (Array.map (fun _ => default) (Array.range 0)) (by simp [h0])
      simp [execOp, Instr.buildSlice, run_underlying T.und, sizeOf, typeInfo, hi0, h0, hparts, hf, newRow]
    · have hf := hfill ((Array.range (n * i.size)).map fun j => z.cells[j % z.cells.size]!) (by simp)
      simp [execOp, Instr.buildSlice, run_underlying T.und, sizeOf, typeInfo, zeroValue, hz, hi0, hn', h0, hparts, hf, newRow]
/-- The empty literal. -/
theorem s_bs0 {t e n bytes : Nat} (T : SlT P t e n bytes) (hN : Nat.blt d N = true)
    (h : ∀ a w', Ext w w' → Reg P N ops .seq rest ds ((d, .slice a 0 0) :: L) w' A B X Z) :
    Reg P N ops .seq (⟨some d, .buildSlice t 0 #[], ty, pos, af, none⟩ :: rest) ds L w A B X Z := by
  obtain ⟨i, z, hi0, hz, hs, hb, hzs⟩ := T.info
  refine Reg.eff (.slice (some ⟨w.heap.size, 0, none⟩) 0 0) (w.alloc (.cells #[] e)) rfl rfl hN (fun a ha => ?_) (h _ _ (Kp.alloc _ _ _))
  have h0 : (Array.map (fun _ => (default : Value)) (Array.range 0)) = #[] := Array.eq_empty_of_size_eq_zero (by simp)
  simp [execOp, Instr.buildSlice, run_underlying T.und, sizeOf, typeInfo, hi0, Instr.fill, newRow, h0]
end
theorem Adv.lit {M : List Nat} {w w' : World} {v : Value} (h : Ext w w') (hn : ∀ b ∈ ob v, w.heap.size ≤ b) : Adv M (ob v ++ M) w w' := ⟨h.kp, fun x hx => by
  rcases List.mem_append.1 hx with h | h
  · exact .inr (hn x h)
  · exact .inl h⟩
theorem Own.mlt {α : Type} {E : Enc α} {e : TypeId} {Bb : Nat} {M : List Nat} {w : World} {v : Value} {xs : List α} {M' : List Nat} (h : Own E e Bb M w v xs) (hM : MLt M' w) : MLt (ob v ++ M') w := fun b hb => by
  rcases List.mem_append.1 hb with hb | hb
  · exact (h.ge b hb).2
  · exact hM b hb
theorem Own.cons {α : Type} {E : Enc α} {e : TypeId} {Bb : Nat} {M : List Nat} {w : World} {v : Value} {xs : List α} {b : Nat} (h : Own E e Bb M w v xs) (hb : w.heap.size ≤ b) : Own E e Bb (b :: M) w v xs := by
  rcases h with h | ⟨g, cap, cur, rfl, h1, h2, h3, h4, h5, h6⟩
  · exact .inl h
  · refine .inr ⟨g, cap, cur, rfl, h1, h2, h3, h4, h5, Chunks.adv ⟨Kp.refl _ _, fun x hx => ?_⟩ h6⟩
    simp at hx
    rcases hx with h | rfl | h
    · exact .inl (by simp [h])
    · exact .inr hb
    · exact .inl (by simp [h])
/-- What the function owns is not among what is older than it. -/
theorem Own.sep {α : Type} {E : Enc α} {e : TypeId} {M0 M : List Nat} {w0 w : World} {v : Value} {xs : List α} (h : Own E e w0.heap.size M w v xs) (hM : MLt M0 w0) : ∀ b ∈ ob v, b ∉ M0 := fun b hb hm => by
  have := (h.ge b hb).1
  have := hM b hm
  omega
end Go.Sx
