/-
  The operations' part of the verifier's library: one lemma for each kind of operation that the code uses. General: nothing of the program is named here.
-/
import Derived.Test.YtecmlmngcnionaaSxCode
namespace Go.Sx
open Go Go.RowKit

section
variable {P : Program} {N : Nat} {ops : Array Oper} {q : Md} {rest : List Oper} {ds : List Deferred} {L : Env} {w : World} {A B : Out} {X : Nat → Out} {Z : List PanicEntry → Out}
variable {d : Nat} {ty : TypeId} {pos : String} {af : Array Edge}

theorem s_mv {x : Operand} {v : Value} (hx : ev L x = some v) (hN : Nat.blt d N = true) (h : Reg P N ops q rest ds ((d, v) :: L) w A B X Z) : Reg P N ops q (⟨some d, .move x, ty, pos, af, none⟩ :: rest) ds L w A B X Z :=
  Reg.val v rfl rfl hN (fun a ha w' _ => by simp [execOp, ha.eval hx]) h
theorem s_as {x : Operand} {v : Value} (hx : ev L x = some v) (hN : Nat.blt d N = true) (h : Reg P N ops q rest ds ((d, v) :: L) w A B X Z) : Reg P N ops q (⟨some d, .assign x, ty, pos, af, none⟩ :: rest) ds L w A B X Z :=
  Reg.val v rfl rfl hN (fun a ha w' _ => by simp [execOp, ha.eval hx]) h
theorem s_pkT {c x y : Operand} {v : Value} (hc : ev L c = some (.bool true)) (hx : ev L x = some v) (hN : Nat.blt d N = true) (h : Reg P N ops q rest ds ((d, v) :: L) w A B X Z) :
    Reg P N ops q (⟨some d, .pick c x y, ty, pos, af, none⟩ :: rest) ds L w A B X Z :=
  Reg.val v rfl rfl hN (fun a ha w' _ => by simp [execOp, ha.eval hx, ha.eval hc, asBool]) h
theorem s_pkF {c x y : Operand} {v : Value} (hc : ev L c = some (.bool false)) (hy : ev L y = some v) (hN : Nat.blt d N = true) (h : Reg P N ops q rest ds ((d, v) :: L) w A B X Z) :
    Reg P N ops q (⟨some d, .pick c x y, ty, pos, af, none⟩ :: rest) ds L w A B X Z :=
  Reg.val v rfl rfl hN (fun a ha w' _ => by simp [execOp, ha.eval hy, ha.eval hc, asBool]) h

section cmp
variable {t t' : TypeId} {x y : Operand} {k k' : IntKind} {i j : Int} (hx : ev L x = some (.int k i)) (hy : ev L y = some (.int k j)) (hN : Nat.blt d N = true)
include hx hy hN
theorem s_lss (h : Reg P N ops q rest ds ((d, .bool (decide (i < j))) :: L) w A B X Z) : Reg P N ops q (⟨some d, .binOp .lss t x y t', ty, pos, af, none⟩ :: rest) ds L w A B X Z :=
  Reg.val _ rfl rfl hN (fun a ha w' _ => by simp [execOp, ha.eval hx, ha.eval hy, eqGuard_lss, binOp_lss]) h
theorem s_leq (h : Reg P N ops q rest ds ((d, .bool (decide (i ≤ j))) :: L) w A B X Z) : Reg P N ops q (⟨some d, .binOp .leq t x y t', ty, pos, af, none⟩ :: rest) ds L w A B X Z :=
  Reg.val _ rfl rfl hN (fun a ha w' _ => by simp [execOp, ha.eval hx, ha.eval hy, eqGuard_leq, binOp_leq]) h
theorem s_gtr (h : Reg P N ops q rest ds ((d, .bool (decide (j < i))) :: L) w A B X Z) : Reg P N ops q (⟨some d, .binOp .gtr t x y t', ty, pos, af, none⟩ :: rest) ds L w A B X Z :=
  Reg.val _ rfl rfl hN (fun a ha w' _ => by simp [execOp, ha.eval hx, ha.eval hy, eqGuard_gtr, binOp_gtr]) h
theorem s_geq (h : Reg P N ops q rest ds ((d, .bool (decide (j ≤ i))) :: L) w A B X Z) : Reg P N ops q (⟨some d, .binOp .geq t x y t', ty, pos, af, none⟩ :: rest) ds L w A B X Z :=
  Reg.val _ rfl rfl hN (fun a ha w' _ => by simp [execOp, ha.eval hx, ha.eval hy, eqGuard_geq, binOp_geq]) h
theorem s_eql (h : Reg P N ops q rest ds ((d, .bool (decide (i = j))) :: L) w A B X Z) : Reg P N ops q (⟨some d, .binOp .eql t x y t', ty, pos, af, none⟩ :: rest) ds L w A B X Z :=
  Reg.val _ rfl rfl hN (fun a ha w' _ => by simp [execOp, ha.eval hx, ha.eval hy, eqGuard_at_int, binOp_eql]; rfl) h
theorem s_neq (h : Reg P N ops q rest ds ((d, .bool (!decide (i = j))) :: L) w A B X Z) : Reg P N ops q (⟨some d, .binOp .neq t x y t', ty, pos, af, none⟩ :: rest) ds L w A B X Z :=
  Reg.val _ rfl rfl hN (fun a ha w' _ => by simp [execOp, ha.eval hx, ha.eval hy, eqGuard_at_int, binOp_neq]; rfl) h
end cmp

theorem wrap_in {k : IntKind} {x : Int} (h : InK k x) : k.wrap x = x := by
  cases k <;> simp [InK, IntKind.min, IntKind.max, IntKind.signed, IntKind.bits, IntKind.wrap] at h ⊢ <;> (try split) <;> omega

section arith
variable {t t' : TypeId} {x y : Operand} {k : IntKind} {i j : Int} (hx : ev L x = some (.int k i)) (hy : ev L y = some (.int k j)) (hN : Nat.blt d N = true)
include hx hy hN
theorem s_add (hr : InK k (i + j)) (h : Reg P N ops q rest ds ((d, .int k (i + j)) :: L) w A B X Z) : Reg P N ops q (⟨some d, .binOp .add t x y t', ty, pos, af, none⟩ :: rest) ds L w A B X Z :=
  Reg.val _ rfl rfl hN (fun a ha w' _ => by simp [execOp, ha.eval hx, ha.eval hy, eqGuard_add, binOp_add, Op.intArith, wrap_in hr]) h
theorem s_sub (hr : InK k (i - j)) (h : Reg P N ops q rest ds ((d, .int k (i - j)) :: L) w A B X Z) : Reg P N ops q (⟨some d, .binOp .sub t x y t', ty, pos, af, none⟩ :: rest) ds L w A B X Z :=
  Reg.val _ rfl rfl hN (fun a ha w' _ => by simp [execOp, ha.eval hx, ha.eval hy, eqGuard_sub, binOp_sub, Op.intArith, wrap_in hr]) h
theorem s_mul (hr : InK k (i * j)) (h : Reg P N ops q rest ds ((d, .int k (i * j)) :: L) w A B X Z) : Reg P N ops q (⟨some d, .binOp .mul t x y t', ty, pos, af, none⟩ :: rest) ds L w A B X Z :=
  Reg.val _ rfl rfl hN (fun a ha w' _ => by simp [execOp, ha.eval hx, ha.eval hy, eqGuard_mul, binOp_mul, Op.intArith, wrap_in hr]) h
theorem s_quo (h0 : 0 ≤ i) (h1 : 0 < j) (hr : InK k i) (h : Reg P N ops q rest ds ((d, .int k (i / j)) :: L) w A B X Z) : Reg P N ops q (⟨some d, .binOp .quo t x y t', ty, pos, af, none⟩ :: rest) ds L w A B X Z :=
  Reg.val _ rfl rfl hN (fun a ha w' _ => by
    have hj : j ≠ 0 := by omega
    have hd : i.tdiv j = i / j := Int.tdiv_eq_ediv_of_nonneg h0
    have hle : i / j ≤ i := Int.ediv_le_self _ h0
    have hge : 0 ≤ i / j := Int.ediv_nonneg h0 (by omega)
    have hw : InK k (i / j) := ⟨by have : k.min ≤ 0 := by cases k <;> simp [IntKind.min, IntKind.signed, IntKind.bits]
                                   omega, by have := hr.2; omega⟩
    simp [execOp, ha.eval hx, ha.eval hy, eqGuard_quo, binOp_quo, Op.intDiv, hj, hd, wrap_in hw]) h
theorem s_rem (h0 : 0 ≤ i) (h1 : 0 < j) (h : Reg P N ops q rest ds ((d, .int k (i % j)) :: L) w A B X Z) : Reg P N ops q (⟨some d, .binOp .rem t x y t', ty, pos, af, none⟩ :: rest) ds L w A B X Z :=
  Reg.val _ rfl rfl hN (fun a ha w' _ => by
    have hj : j ≠ 0 := by omega
    have hd : i.tmod j = i % j := Int.tmod_eq_emod_of_nonneg h0
    simp [execOp, ha.eval hx, ha.eval hy, eqGuard_rem, binOp_rem, Op.intDiv, hj, hd]) h
end arith

theorem s_not {t : TypeId} {x : Operand} {b : Bool} (hx : ev L x = some (.bool b)) (hN : Nat.blt d N = true) (h : Reg P N ops q rest ds ((d, .bool (!b)) :: L) w A B X Z) :
    Reg P N ops q (⟨some d, .unOp .not t x, ty, pos, af, none⟩ :: rest) ds L w A B X Z :=
  Reg.val _ rfl rfl hN (fun a ha w' _ => by simp [execOp, ha.eval hx, Op.unary]) h
theorem s_neg {t : TypeId} {x : Operand} {k : IntKind} {i : Int} (hx : ev L x = some (.int k i)) (hN : Nat.blt d N = true) (hr : InK k (-i)) (h : Reg P N ops q rest ds ((d, .int k (-i)) :: L) w A B X Z) :
    Reg P N ops q (⟨some d, .unOp .neg t x, ty, pos, af, none⟩ :: rest) ds L w A B X Z :=
  Reg.val _ rfl rfl hN (fun a ha w' _ => by simp [execOp, ha.eval hx, Op.unary, Op.intArith, wrap_in hr]) h
theorem s_cvt {s t : TypeId} {x : Operand} {k k' : IntKind} {i : Int} {du : TypeDesc} (hx : ev L x = some (.int k i)) (hs : P.underlying s = some du) (ht : P.underlying t = some (.int k')) (hN : Nat.blt d N = true) (hr : InK k' i)
    (h : Reg P N ops q rest ds ((d, .int k' i) :: L) w A B X Z) : Reg P N ops q (⟨some d, .convert s t x, ty, pos, af, none⟩ :: rest) ds L w A B X Z :=
  Reg.val _ rfl rfl hN (fun a ha w' _ => by simp [execOp, ha.eval hx, convert, run_underlying hs, run_underlying ht, Conv.intToInt, wrap_in hr]) h

/-- The length of a slice. -/
theorem s_len {α : Type} {E : Enc α} {M : List Nat} {w0 : World} {t e : TypeId} {x : Operand} {v : Value} {xs : List α} (hx : ev L x = some v) (hv : RdS E M w0 v xs) (ht : P.underlying t = some (.slice e)) (hN : Nat.blt d N = true)
    (h : Reg P N ops q rest ds ((d, .int .i64 xs.length) :: L) w A B X Z) : Reg P N ops q (⟨some d, .call ⟨.builtin .len, #[x], #[t]⟩, ty, pos, af, none⟩ :: rest) ds L w A B X Z := by
  obtain ⟨a, c, rfl, _⟩ := hv
  exact Reg.val _ rfl rfl hN (fun a ha w' _ => by simp [execOp, resolve, invoke, builtin, ha.eval hx, Builtin.len_, run_underlying ht, goInt]) h
theorem s_lenV {t e : TypeId} {x : Operand} {a : Option Addr} {n c : Nat} (hx : ev L x = some (.slice a n c)) (ht : P.underlying t = some (.slice e)) (hN : Nat.blt d N = true)
    (h : Reg P N ops q rest ds ((d, .int .i64 n) :: L) w A B X Z) : Reg P N ops q (⟨some d, .call ⟨.builtin .len, #[x], #[t]⟩, ty, pos, af, none⟩ :: rest) ds L w A B X Z :=
  Reg.val _ rfl rfl hN (fun a ha w' _ => by simp [execOp, resolve, invoke, builtin, ha.eval hx, Builtin.len_, run_underlying ht, goInt]) h

theorem Cells.at {w : World} {b o : Nat} {cs : List Value} (h : Cells w b o cs) (j : Nat) {v : Value} (hj : cs[j]? = some v) : w.cell? ⟨b, o + j, none⟩ = some v := h j v hj

theorem add_none (b o n : Nat) : Addr.add ⟨b, o, none⟩ n = ⟨b, o + n, none⟩ := Addr.add_lit b o n

/-- The address of a slice's element. -/
theorem s_ia {α : Type} {E : Enc α} {M : List Nat} {t e : TypeId} {x y : Operand} {v : Value} {xs : List α} {k : IntKind} {i : Int}
    (hx : ev L x = some v) (hy : ev L y = some (.int k i)) (hv : RdS E M w v xs) (hi : 0 ≤ i ∧ i < xs.length) (ht : P.underlying t = some (.slice e)) (hs : ∀ w, (sizeOf e).run P w = .ok E.n w) (hN : Nat.blt d N = true)
    (h : ∀ b o cs y, xs[i.toNat]? = some y → E.R M w cs y → RdC M w b o cs → Reg P N ops q rest ds ((d, .pointer (some ⟨b, o, none⟩)) :: L) w A B X Z) :
    Reg P N ops q (⟨some d, .indexAddr t x y, ty, pos, af, none⟩ :: rest) ds L w A B X Z := by
  have hin : i.toNat < xs.length := by omega
  obtain ⟨b, o, c, cs, rfl, hb, hlt, hR, hC⟩ := hv.at i.toNat hin
  refine Reg.val (.pointer (some ⟨b, o + i.toNat * E.n, none⟩)) rfl rfl hN (fun a ha w' _ => ?_) (h b _ cs _ (List.getElem?_eq_getElem hin) hR ⟨hb, hlt, hC⟩)
  simp [execOp, ha.eval hx, ha.eval hy, Instr.indexAt, asIntOf, run_underlying ht, hi.1, hi.2, hs, add_none]
/-- A new variable that holds a value. -/
theorem s_box {e : TypeId} {x : Operand} {v : Value} {cs : List Value} (hx : ev L x = some v) (hc : v.cells = cs.toArray) (hN : Nat.blt d N = true)
    (h : ∀ b w', b = w.heap.size → Ext w w' → b < w'.heap.size → w'.heap[b]? = some (.cells cs.toArray e (0, 0)) → Reg P N ops .seq rest ds ((d, .pointer (some ⟨b, 0, none⟩)) :: L) w' A B X Z) :
    Reg P N ops .seq (⟨some d, .box e x, ty, pos, af, none⟩ :: rest) ds L w A B X Z := by
  refine Reg.eff (.pointer (some ⟨w.heap.size, 0, none⟩)) (w.alloc (.cells cs.toArray e)) rfl rfl hN (fun a ha => ?_) (h _ _ rfl (Kp.alloc _ _ _) (by simp) (heap_alloc_new w _))
  simp [execOp, ha.eval hx, Instr.box, newVar, newRow, hc]
/-- What a block of cells holds reads so. -/
theorem RdC.of_row {M : List Nat} {w : World} {b : Nat} {cs : List Value} {e : TypeId} {fz : Nat × Nat} (hb : b ∉ M) (h : w.heap[b]? = some (.cells cs.toArray e fz)) : RdC M w b 0 cs :=
  ⟨hb, by rcases Nat.lt_or_ge b w.heap.size with h1 | h1
          · exact h1
          · simp [Array.getElem?_eq_none h1] at h, fun j u hj => by
    show (match w.heap[b]? with | some (.cells c _ _) => if Option.isSome (none : Option Nat) then none else c[0 + j]? | _ => none) = some u
    rw [h]; simpa using hj⟩
theorem RdS.cells1 {α : Type} {E : Enc α} {M : List Nat} {w : World} {v : Value} {xs : List α} (hr : RdS E M w v xs) : v.cells = [v].toArray := by
  obtain ⟨a, c, rfl, _⟩ := hr; rfl
/-- A block of a variable that the function writes. -/
def Row (e : TypeId) (w : World) (b : Nat) (cs : List Value) : Prop := w.heap[b]? = some (.cells cs.toArray e (0, 0))
theorem Row.rd {e : TypeId} {w : World} {b : Nat} {cs : List Value} (h : Row e w b cs) : RdC [] w b 0 cs := RdC.of_row (by simp) h
theorem Row.kp {e : TypeId} {w w' : World} {b : Nat} {cs : List Value} {M : List Nat} (h : Row e w b cs) (k : Kp M w w') (hb : b ∉ M) : Row e w' b cs := (k.block b h.rd.lt hb).trans h
def setAt : List Value → Nat → List Value → List Value
  | cs, _, [] => cs
  | [], _, _ => []
  | _ :: r, 0, v :: vs => v :: setAt r 0 vs
  | c :: r, n + 1, vs => c :: setAt r n vs
theorem s_boxS {α : Type} {E : Enc α} {M : List Nat} {w0 : World} {xs : List α} {e : TypeId} {x : Operand} {v : Value} (hv : RdS E M w0 v xs) (hx : ev L x = some v) (hN : Nat.blt d N = true)
    (h : ∀ b w', b = w.heap.size → Ext w w' → b < w'.heap.size → w'.heap[b]? = some (.cells [v].toArray e (0, 0)) → Reg P N ops .seq rest ds ((d, .pointer (some ⟨b, 0, none⟩)) :: L) w' A B X Z) :
    Reg P N ops .seq (⟨some d, .box e x, ty, pos, af, none⟩ :: rest) ds L w A B X Z := by
  obtain ⟨a, c, rfl, _⟩ := hv
  exact s_box hx rfl hN h
/-- The address of a field. -/
theorem s_fa {s : TypeId} {x : Operand} {b o f m : Nat} {fields : Array Field} {fl : Field} (hx : ev L x = some (.pointer (some ⟨b, o, none⟩))) (hs : P.underlying s = some (.struct fields)) (hf : fields[f]? = some fl)
    (hz : ∀ w, (sizeOf fl.type).run P w = .ok (m + 1) w) (hN : Nat.blt d N = true) (h : Reg P N ops q rest ds ((d, .pointer (some ⟨b, o + fl.offset, none⟩)) :: L) w A B X Z) :
    Reg P N ops q (⟨some d, .fieldAddr s x f, ty, pos, af, none⟩ :: rest) ds L w A B X Z :=
  Reg.val _ rfl rfl hN (fun a ha w' _ => by simp [execOp, ha.eval hx, Instr.fieldAt, run_underlying hs, hf, Instr.sureAddr, fieldPlace, hz, add_none]) h
/-- A load of one cell. -/
theorem s_ld {e : TypeId} {x : Operand} {p : Addr} {v : Value} (hx : ev L x = some (.pointer (some p))) (hc : w.cell? p = some v) (he : ∀ w, (isAgg e).run P w = .ok false w) (hN : Nat.blt d N = true)
    (h : Reg P N ops q rest ds ((d, v) :: L) w A B X Z) : Reg P N ops q (⟨some d, .load e x, ty, pos, af, none⟩ :: rest) ds L w A B X Z :=
  Reg.val v rfl rfl hN (fun a ha w' hw' => by
    have hc' := hw'.ext.cell (by simp) hc
    simp [execOp, ha.eval hx, Instr.loadAt, Instr.sureAddr, loadVar, he, hc']) h
/-- A load of a struct. -/
theorem s_lda {e : TypeId} {x : Operand} {b o n : Nat} {cs : List Value} (hx : ev L x = some (.pointer (some ⟨b, o, none⟩))) (hc : Cells w b o cs) (he : ∀ w, (isAgg e).run P w = .ok true w) (hn : cs.length = n) (hz : ∀ w, (sizeOf e).run P w = .ok n w) (hN : Nat.blt d N = true)
    (h : Reg P N ops q rest ds ((d, .agg cs.toArray) :: L) w A B X Z) : Reg P N ops q (⟨some d, .load e x, ty, pos, af, none⟩ :: rest) ds L w A B X Z := by
  subst hn
  refine Reg.val _ rfl rfl hN (fun a ha w' hw' => ?_) h
  have := run_loadCells_list (P := P) w' ⟨b, o, none⟩ cs (fun j v hj => by rw [add_none]; exact hw'.ext.cell (by simp) (hc j v hj))
  simp [execOp, ha.eval hx, Instr.loadAt, Instr.sureAddr, loadVar, he, hz, this]
/-- A field of a struct's value: one of one cell. -/
theorem s_fd {s : TypeId} {x : Operand} {f : Nat} {cs : List Value} {v : Value} {fields : Array Field} {fl : Field} (hx : ev L x = some (.agg cs.toArray)) (hs : P.underlying s = some (.struct fields)) (hf : fields[f]? = some fl)
    (he : ∀ w, (isAgg fl.type).run P w = .ok false w) (hv : cs[fl.offset]? = some v) (hN : Nat.blt d N = true)
    (h : Reg P N ops q rest ds ((d, v) :: L) w A B X Z) : Reg P N ops q (⟨some d, .field s x f, ty, pos, af, none⟩ :: rest) ds L w A B X Z :=
  Reg.val v rfl rfl hN (fun a ha w' _ => by simp [execOp, ha.eval hx, Instr.field, run_underlying hs, hf, asAgg, part, he, hv]) h
/-- A component of a tuple. -/
theorem s_xt {x : Operand} {i : Nat} {vs : List Value} {v : Value} (hx : ev L x = some (.tuple vs.toArray)) (hv : vs[i]? = some v) (hN : Nat.blt d N = true)
    (h : Reg P N ops q rest ds ((d, v) :: L) w A B X Z) : Reg P N ops q (⟨some d, .extract x i, ty, pos, af, none⟩ :: rest) ds L w A B X Z :=
  Reg.val v rfl rfl hN (fun a ha w' _ => by simp [execOp, ha.eval hx, Instr.extract, hv]) h

/-! Calls. -/
def evs (L : Env) : List Operand → Option (List Value)
  | [] => some []
  | x :: r => match ev L x with
    | some v => match evs L r with
      | some vs => some (v :: vs)
      | none => none
    | none => none
theorem evs_map {a : Act} (ha : Knows N ds L a) : ∀ (xs : List Operand) (vs : List Value), evs L xs = some vs → xs.map a.eval = vs
  | [], vs, h => by simp [evs] at h; subst h; rfl
  | x :: r, vs, h => by
    simp only [evs] at h
    split at h
    · rename_i v hv
      split at h
      · rename_i us hu
        cases h
        simp [ha.eval hv, evs_map ha r us hu]
      · cases h
    · cases h
theorem run_call {w' : World} {f : Nat} {xs : List Operand} {vs : List Value} {ts : Array TypeId} {a : Act} (ha : Knows N ds L a) (hvs : evs L xs = some vs) (hf : ∀ args w, (callFunc f args).run P w = .ok (.enter f args) w) {g : Option (Nat × Bool)} {dd : Option Tmp} :
    (execOp a.eval ⟨dd, .call ⟨.value (.func f), xs.toArray, ts⟩, ty, pos, af, g⟩).run P w' = .ok (.enter f vs.toArray) w' := by
  have := evs_map ha xs vs hvs
  simp [execOp, resolve, Act.eval, Deferred.ofValue, invoke, hf, this]
theorem s_call {f : Nat} {xs : List Operand} {vs : List Value} {ts : Array TypeId} (hvs : evs L xs = some vs) (hf : ∀ args w, (callFunc f args).run P w = .ok (.enter f args) w) (hN : Nat.blt d N = true)
    (h : Calls P f vs.toArray w fun e w' => ∃ v, e = .returned v ∧ Reg P N ops .seq rest ds ((d, v) :: L) w' A B X Z) :
    Reg P N ops .seq (⟨some d, .call ⟨.value (.func f), xs.toArray, ts⟩, ty, pos, af, none⟩ :: rest) ds L w A B X Z :=
  Reg.call rfl rfl hN (fun a ha => run_call ha hvs hf) h
theorem s_call0 {f : Nat} {xs : List Operand} {vs : List Value} {ts : Array TypeId} (hvs : evs L xs = some vs) (hf : ∀ args w, (callFunc f args).run P w = .ok (.enter f args) w)
    (h : Calls P f vs.toArray w fun e w' => ∃ v, e = .returned v ∧ Reg P N ops .seq rest ds L w' A B X Z) :
    Reg P N ops .seq (⟨none, .call ⟨.value (.func f), xs.toArray, ts⟩, ty, pos, af, none⟩ :: rest) ds L w A B X Z :=
  Reg.call0 rfl rfl (fun a ha => run_call ha hvs hf) h
theorem s_callq {f : Nat} {xs : List Operand} {vs : List Value} {ts : Array TypeId} {v : Value} (hq : q.drawn = true) (hvs : evs L xs = some vs) (hf : ∀ args w, (callFunc f args).run P w = .ok (.enter f args) w) (hN : Nat.blt d N = true)
    (hc : ∀ w', Ext w w' → Calls P f vs.toArray w' fun e w'' => e = .returned v ∧ Ext w' w'')
    (h : Reg P N ops q rest ds ((d, v) :: L) w A B X Z) :
    Reg P N ops q (⟨some d, .call ⟨.value (.func f), xs.toArray, ts⟩, ty, pos, af, none⟩ :: rest) ds L w A B X Z :=
  Reg.callq v hq rfl rfl hN (fun a ha w' _ => run_call ha hvs hf) hc h
end
end Go.Sx
