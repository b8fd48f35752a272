/-
  Part AccountStands 6 of the texts that the statement's proof stands on: what memory holds, how code is walked, what the functions reckon. In the order in which they build.
-/
import Derived.RangeFuncLeaves
import Derived.RangeFuncNested
import Derived.TacticsIn
import Derived.RangeFuncKeeps
import Derived.ProofKit
import Derived.Deep.Slices
import Derived.Test.YtepjkmoipjeghaaDoorAcAccountStands5
set_option linter.unusedVariables false
set_option linter.unusedSectionVars false
namespace Go.Sx
open Go Go.RowKit
variable [Trk]
/-- A function's end, where a range over a function may have left its mark. -/
def FinM (P : Program) (fn : Func) (R : Ending → World → Prop) (ds : List Deferred) (L : Env) (w : World) : Prop :=
  (ds = [] ∧ ∃ v, (∀ a, Knows fn.ntmps ds L a → (results fn a.tmps).run P w = .ok v w) ∧ R (.returned v) w) ∨
  ∃ D w', ds = [{ target := .collected D, args := #[] }] ∧ (Instr.takeDeferred D).run P w = .ok [] w' ∧ ∃ v, (∀ a, Knows fn.ntmps ds L a → (results fn a.tmps).run P w' = .ok v w') ∧ R (.returned v) w'
theorem FinM.of {P : Program} {fn : Func} {R : Ending → World → Prop} {ds : List Deferred} {L : Env} {w : World} (h : FinR P fn R ds L w) : FinM P fn R ds L w := .inl h
theorem calls_cwM {P : Program} {f : FuncId} {fn : Func} {c : Code} {l : List Value} {w : World} {R : Ending → World → Prop} {N : Nat}
    (hf : P.funcs[f]? = some fn) (hb : fn.body = some c) (hN : fn.ntmps = N) (hl : Nat.ble l.length N = true)
    (h : CW P N c [] (argEnv 0 l) w (FinM P fn R) (FinM P fn R) NoX NoZ) : Calls P f l.toArray w R := by
  subst hN
  refine (callsIn_wide (n := 3)).1 (callsIn_of_wp_marks hf hb trivial (wpIn_wide.2 (wp_mono (h _ ⟨?_, rfl, ?_⟩) ?_)) rfl)
  · have : l.length ≤ fn.ntmps := Nat.le_of_ble_eq_true hl
    simp; omega
  · intro t v ht
    obtain ⟨j, rfl, hj⟩ := look_argEnv l 0 t v ht
    have hlt : j < l.length := by
      rcases Nat.lt_or_ge j l.length with h | h
      · exact h
      · simp [List.getElem?_eq_none h] at hj
    simp only [Nat.zero_add]
    rw [Array.getElem?_append_left (by simpa using hlt)]
    simpa using hj
  · intro e a w' hq
    have fin : ∀ ds L, Knows fn.ntmps ds L a → FinM P fn R ds L w' → LeavesInM Fence.wide 3 P fn a.tmps R a.defers .returning w' := fun ds L ha hF => by
      rcases hF with ⟨rfl, v, hv, hR⟩ | ⟨D, w2, rfl, ht, v, hv, hR⟩
      · rw [ha.defers]; exact ⟨v, hv a ha, hR⟩
      · rw [ha.defers]; exact ⟨by simp, .inl ⟨D, w2, rfl, ht, ⟨v, hv a ha, hR⟩⟩⟩
    cases e with
    | normal => obtain ⟨ds, L, ha, hF⟩ := hq; exact fin ds L ha hF
    | ret => obtain ⟨ds, L, ha, hF⟩ := hq; exact fin ds L ha hF
    | panic ch => obtain ⟨ds, L, ha, hF⟩ := hq; exact hF.elim
    | exit i => obtain ⟨ds, L, ha, hx⟩ := hq; exact hx.elim
    | goto l => exact hq.elim
    | outgrown => exact hq.elim
/-- A map that is read: from numbers. -/
def RdM {α : Type} (E : Enc α) (ag : Bool) (k : IntKind) (M : List Nat) (w : World) (b : Nat) (xs : List (Int × α)) : Prop :=
  b ∉ M ∧ b < w.heap.size ∧ ∃ es c, w.heap[b]? = some (.map es c) ∧ EntR E ag k M w es.toList xs
theorem RdM.adv {α : Type} {E : Enc α} {ag : Bool} {k : IntKind} {M M' : List Nat} {w w' : World} {b : Nat} {xs : List (Int × α)} (h : RdM E ag k M w b xs) (ha : Adv M M' w w') : RdM E ag k M' w' b xs := by
  obtain ⟨h1, h2, es, c, h3, h4⟩ := h
  exact ⟨fun hb => (ha.new b hb).elim h1 (fun h => absurd h2 (by omega)), Nat.lt_of_lt_of_le h2 ha.kp.size, es, c, (ha.kp.block b h2 h1).trans h3, h4.adv ha⟩
end Go.Sx
namespace Go.Sx
open Go Go.RowKit
variable [Trk]
/-- Nothing is fenced; code runs in a round of loop l. -/
def FW (l : Nat) : Fence := Fence.wide.inRound l
theorem callsIn_FW {l n : Nat} {P : Program} {f : FuncId} {args : Array Value} {w : World} {R : Ending → World → Prop} (h : Calls P f args w R) : CallsIn (FW l) n P f args w R :=
  show CallsIn Fence.wide n P f args w R from callsIn_wide.2 h
theorem uponIn_of {l n : Nat} {P : Program} {o : Oper} {a : Act} {next next' : Act → World → Prop} {Q : Exit → Act → World → Prop} (hn : ∀ a w, next a w → next' a w) {r : Result Next} (h : o.upon P a next Q r) : o.uponIn (FW l) n P a next' Q r := by
  unfold Oper.upon at h
  split at h
  · exact hn _ _ h
  · exact hn _ _ h
  · exact hn _ _ h
  · refine ⟨fun e => (by cases e), callsIn_FW (h.mono fun e w2 h2 => ?_)⟩
    cases e with
    | returned v => exact hn _ _ h2
    | panicked c => exact h2
    | outgrown => exact h2
  · refine ⟨fun e => (by cases e), fun c cs _ => ?_⟩
    obtain ⟨v, w2, h2, h3⟩ := h c cs
    exact ⟨v, w2, hn _ _ h2, (show StepsIn (Machine.fenced P Fence.wide) P _ _ from stepsIn_wide.2 h3)⟩
  · exact h
  · exact h.elim
def noDefer : Op → Bool
  | .defer _ => false
  | _ => true
theorem wpListIn_of {l n : Nat} {P : Program} {ops : Array Oper} {Q : Exit → Act → World → Prop} (hQ : ¬ LetsOut Q) : ∀ {os : List Oper} {a : Act} {w : World}, os.all (fun o => noDefer o.op) = true → wpList P ops Q os a w → wpListIn (FW l) n P ops Q os a w
  | [], _, _, _, h => h
  | o :: os, a, w, hd, h => by
    simp only [List.all_cons, Bool.and_eq_true] at hd
    have ih : ∀ a w, wpList P ops Q os a w → wpListIn (FW l) n P ops Q os a w := fun a w => wpListIn_of hQ hd.2
    unfold wpList at h
    unfold wpListIn
    split at h
    · rename_i hw
      rw [if_pos hw]
      rcases h with h | h
      · refine ⟨fun _ _ => trivial, ?_⟩
        have hs : Oper.semAt (FW l).round a.eval o = execOp a.eval o := Oper.semAt_eq _ _ _ fun c hc => by rw [hc] at hd; simp [noDefer] at hd
        rw [hs]
        exact uponIn_of ih h
      · exact absurd h.2 hQ
    · rename_i hw
      rw [if_neg hw]
      exact ⟨fun _ _ => trivial, ih _ _ h⟩
/-- What code does in a round. -/
def CI (l n : Nat) (P : Program) (N : Nat) (c : Code) (ds : List Deferred) (L : Env) (w : World) (A B : Out) (X : Nat → Out) (Z : List PanicEntry → Out) : Prop := ∀ a, Knows N ds L a → c.wpIn (FW l) n P (lift N A B X Z) a w
section
variable {l n : Nat} {P : Program} {N : Nat} {ds : List Deferred} {L : Env} {w : World} {A B : Out} {X : Nat → Out} {Z : List PanicEntry → Out}
theorem noOut : ¬ LetsOut (lift N A B X Z) := fun ⟨_, _, h⟩ => h
theorem ci_reg {id : Nat} {os : List Oper} (hd : os.all (fun o => noDefer o.op) = true) (h : Reg P N os.toArray .seq os ds L w A B X Z) : CI l n P N (.region id os.toArray false) ds L w A B X Z :=
  fun a ha => wpIn_region_lit (wpListIn_of noOut hd (h a ha))
end
section
variable {l n : Nat} {P : Program} {N : Nat} {ds : List Deferred} {L : Env} {w : World} {A B : Out} {X : Nat → Out} {Z : List PanicEntry → Out}
theorem ci_sub {c : Code} {L' : Env} (hs : Sub L L') (h : CI l n P N c ds L w A B X Z) : CI l n P N c ds L' w A B X Z := fun a ha => h a (ha.sub hs)
theorem ci_block {id : Nat} {c : Code} (h : CI l n P N c ds L w A B (exB id A X) Z) : CI l n P N (.block id c) ds L w A B X Z := fun a ha =>
  wpIn_block (wpIn_mono (h a ha) fun e a' w' hq => by
    cases e with
    | exit i =>
      obtain ⟨ds', L', ha', hx⟩ := hq
      simp only [Exit.inBlock]
      by_cases hi : i = id
      · subst hi
        rw [if_pos rfl]
        exact ⟨ds', L', ha', by simpa [exB] using hx⟩
      · rw [if_neg hi]
        refine ⟨ds', L', ha', ?_⟩
        have hb : Nat.beq i id = false := by
          cases hb : Nat.beq i id with
          | false => rfl
          | true => exact absurd (Nat.eq_of_beq_eq_true hb) hi
        simpa [exB, hb] using hx
    | _ => exact hq)
end
end Go.Sx
namespace Go.Sx
open Go Go.RowKit
variable [Trk]
/-- A region in which something is yielded. -/
def Rgi (n : Nat) (P : Program) (N : Nat) (ops : Array Oper) (l : List Oper) (ds : List Deferred) (L : Env) (w : World) (A B : Out) (X : Nat → Out) (Z : List PanicEntry → Out) : Prop :=
  ∀ a, Knows N ds L a → wpListIn Fence.wide n P ops (lift N A B X Z) l a w
section
variable {n : Nat} {P : Program} {N : Nat} {ops : Array Oper} {rest : List Oper} {ds : List Deferred} {L : Env} {w : World} {A B : Out} {X : Nat → Out} {Z : List PanicEntry → Out}
theorem cw_regI {id : Nat} {l : List Oper} (n : Nat) (h : Rgi n P N l.toArray l ds L w A B X Z) : CW P N (.region id l.toArray false) ds L w A B X Z := fun a ha => wpIn_wide.1 (wpIn_region_lit (h a ha))
theorem Rgi.nil (h : A ds L w) : Rgi n P N ops [] ds L w A B X Z := fun a ha => ⟨ds, L, ha, h⟩
theorem Rgi.val {o : Oper} {d : Nat} (v : Value) (hg : o.guard = none) (hd : o.dst = some d) (hN : Nat.blt d N = true) (hdf : noDefer o.op = true)
    (hr : ∀ a, Knows N ds L a → (execOp a.eval o).run P w = .ok (.value v) w) (h : Rgi n P N ops rest ds ((d, v) :: L) w A B X Z) : Rgi n P N ops (o :: rest) ds L w A B X Z := fun a ha => by
  unfold wpListIn
  rw [if_pos (by unfold Region.wanted; rw [hg])]
  refine ⟨fun _ _ => trivial, ?_⟩
  have hs : Oper.semAt Fence.wide.round a.eval o = execOp a.eval o := Oper.semAt_eq _ _ _ fun c hc => by rw [hc] at hdf; simp [noDefer] at hdf
  rw [hs, hr a ha]
  show wpListIn _ _ _ _ _ rest (a.put o.dst v) w
  rw [hd]
  exact h _ (ha.put hN v)
theorem Rgi.yield {f x : Operand} {l d : Nat} {v : Value} {ts : Array TypeId} {ty : TypeId} {pos : String} {af : Array Edge} {R : Ending → World → Prop} (hf : ev L f = some (.func (.yield l) #[] #[])) (hx : ev L x = some v) (hN : Nat.blt d N = true)
    (hY : YieldAt Fence.wide (n - 1) P l #[v] w R) (h : ∀ e w', R e w' → ∃ u, e = .returned u ∧ Rgi n P N ops rest ds ((d, u) :: L) w' A B X Z) :
    Rgi n P N ops (⟨some d, .call ⟨.value f, #[x], ts⟩, ty, pos, af, none⟩ :: rest) ds L w A B X Z := fun a ha => by
  obtain ⟨fn, tmps, assign, body, hy, hR⟩ := hY
  unfold wpListIn
  rw [if_pos (by rfl)]
  refine ⟨fun _ _ => trivial, ?_⟩
  have hs : ∀ o : Oper, noDefer o.op = true → Oper.semAt Fence.wide.round a.eval o = execOp a.eval o := fun o hdf => Oper.semAt_eq _ _ _ fun c hc => by rw [hc] at hdf; simp [noDefer] at hdf
  rw [hs _ rfl]
  have hrun : (execOp a.eval ⟨some d, .call ⟨.value f, #[x], ts⟩, ty, pos, af, none⟩).run P w = .ok (.round l fn tmps assign body) w := by
    simp [execOp, resolve, ha.eval hf, ha.eval hx, Deferred.ofValue, invoke, hy]
  rw [hrun]
  refine ⟨fun e => (by cases e), hR.mono fun e w' h' => ?_⟩
  obtain ⟨u, rfl, h2⟩ := h e w' h'
  exact h2 _ (ha.put hN u)
end
/-- The block of the slice that a variable's first cell holds. -/
def gOf (w : World) (b : Nat) : Option Nat := match w.cell? ⟨b, 0, none⟩ with
  | some v => (ob v).head?
  | none => none
/-- What a body keeps that writes a variable, and what its slice has, alone. -/
structure KB (b2 : Nat) (w w' : World) : Prop where
  size : w.heap.size ≤ w'.heap.size
  cell : ∀ b j v, b ≠ b2 → gOf w b2 ≠ some b → w.cell? ⟨b, j, none⟩ = some v → w'.cell? ⟨b, j, none⟩ = some v
  gof : ∀ g, gOf w' b2 = some g → gOf w b2 = some g ∨ w.heap.size ≤ g
theorem KB.refl (b2 : Nat) (w : World) : KB b2 w w := ⟨Nat.le_refl _, fun _ _ _ _ _ h => h, fun _ h => .inl h⟩
theorem KB.trans {b2 : Nat} {A B C : World} (h : KB b2 A B) (k : KB b2 B C) : KB b2 A C :=
  ⟨Nat.le_trans h.size k.size, fun b j v h1 h2 h3 => k.cell b j v h1 (fun e => (h.gof b e).elim h2 fun h4 => by
    have := cell_lt h3
    have : b < A.heap.size := this
    omega) (h.cell b j v h1 h2 h3), fun g hg => (k.gof g hg).elim (h.gof g) fun h4 => .inr (Nat.le_trans h.size h4)⟩
theorem KB.of_ext {b2 : Nat} {A B : World} (h : Ext A B) (hb : b2 < A.heap.size) : KB b2 A B :=
  ⟨h.size, fun b j v _ _ h3 => h.cell (p := ⟨b, j, none⟩) (by simp) h3, fun g hg => .inl (by
    unfold gOf at hg ⊢
    rw [World.cell?_of_block (a := ⟨b2, 0, none⟩) (w := A) (h.block b2 hb (by simp))] at hg
    exact hg)⟩
theorem KB.putObj {b2 l : Nat} {o o' : Obj} {W : World} (h : W.heap[l]? = some o) (ho : o.isCells = false) (hb : b2 ≠ l) : KB b2 W (W.putObj l o') := by
  have hne : ∀ b, b ≠ l → (W.putObj l o').heap[b]? = W.heap[b]? := fun b hb => World.putObj_heap_other hb
  refine ⟨by simp, fun b j v _ _ h3 => ?_, fun g hg => .inl ?_⟩
  · by_cases e : b = l
    · subst e
      unfold World.cell? at h3
      simp only [h] at h3
      cases o <;> simp [Obj.isCells] at ho h3
    · rw [World.cell?_of_block (a := ⟨b, j, none⟩) (w := W) (hne b e)]; exact h3
  · unfold gOf at hg ⊢
    rw [World.cell?_of_block (a := ⟨b2, 0, none⟩) (w := W) (hne b2 hb)] at hg
    exact hg
/-- What was below stays: for readings, which ask nothing of how often was drawn. -/
theorem Ext.of_below0 {a b : World} (h : Below a.heap.size a b) (t : ¬ Trk.t) : Ext a b := ⟨h.os, h.tape, h.output, h.size, fun k hk _ => h.block k hk, fun h => absurd h t⟩
theorem Ext.grownBy {a b : World} (h : Ext a b) : a.grownBy b none := ⟨h.os, h.tape, h.output, h.size, fun k hk _ => h.block k hk (by simp)⟩
end Go.Sx
set_option maxRecDepth 20000
namespace Go.Proofs.YtepjkmoipjeghaaDoor
open Go Go.Sx Go.RowKit
variable [Trk]
noncomputable def P.account_facts (d_c : Desk) : Option (List Report) :=
  Option.bind (anyM (S := (FMap Int Report)) (fun x15 (y16 : Int × Report) => Option.bind (Option.bind (Option.bind (some ((d_c.fixed y16.1).getD 0)) fun y39 => Option.bind (cond ((d_c.fixed y16.1).isSome) (Option.bind (Option.bind (some ((d_c.store.reports y39).getD (Report.mk 0 0 0 0 0 0 0 0))) fun y45 => Option.bind (some ((d_c.store.reports y39).getD (Report.mk 0 0 0 0 0 0 0 0))) fun y70 => some (y45.about, y70.cents)) fun (x105, x106) => some (x105, x106)) (some (y16.2.about, y16.2.cents))) fun (x107, x108) => some (x107, x108)) fun (x109, x110) => Option.bind (P.account_fact (Report.mk y16.2.id y16.2.source y16.2.account y16.2.made x109 y16.2.kind x110 y16.2.of_)) fun z111 => Option.bind (cond z111 (some (fput x15 y16.1 (Report.mk y16.2.id y16.2.source y16.2.account y16.2.made x109 y16.2.kind x110 y16.2.of_))) (some x15)) fun x120 => some x120) fun x121 => some x121) d_c.store.reports fnone) fun x122 => Option.bind (anyM (S := (FMap Int Report)) (fun x133 (y134 : Int × Int) => some (fdel x133 y134.1)) d_c.gone x122) fun x145 => anyK x145 fun (l160 : List (Int × Report)) => Option.bind (List.foldlM (fun (x158 : (List Report)) (y159 : Int × Report) => Option.bind (appo 64 x158 ([(Report.mk y159.2.id y159.2.source y159.2.account y159.2.made y159.2.about y159.2.kind y159.2.cents y159.2.of_)] : List Report)) fun l190 => some l190) [] l160) fun x195 => Option.bind (P.account_ordered_74 x195 ([75, 76] : List Nat)) fun z202 => some z202
theorem C_account_facts {M : List Nat} {w : World} (hM : MLt M w) {d_c : Desk} {v_d_c_0 : Value} {v_d_c_1 : Value} {v_d_c_2 : Value} (f_d_c_0 : RdF Ky3 ReportE true M w v_d_c_0 d_c.store.reports) (f_d_c_1 : RdF Ky3 (intE .i64) false M w v_d_c_1 d_c.gone) (f_d_c_2 : RdF Ky3 (intE .i64) false M w v_d_c_2 d_c.fixed) {b_d_c : Nat} (c_d_c : RdC M w b_d_c 0 [v_d_c_0, v_d_c_1, v_d_c_2]) {r0 : List Report} (h : P.account_facts d_c = some r0) {b2 : Nat} (hb2 : b2 < w.heap.size) (hg2 : ∀ g, gOf w b2 = some g → g < w.heap.size) {n lp : Nat} {J Jx : List Report → World → Prop} (hJ : AbidesFrom w.heap.size J)
    (hY : ∀ (pre : List Report) (x : Report) (W1 : World), J pre W1 → pre.length < r0.length → r0[pre.length]? = some x → YieldAt Fence.wide (n - 1) Tryd.prog lp #[.agg (encR x).toArray] W1 fun e W' => (e = .returned (.bool true) ∧ J (pre ++ [x]) W' ∧ KB b2 W1 W') ∨ (e = .returned (.bool false) ∧ Jx (pre ++ [x]) W')) (h0 : J [] w) :
    Calls Tryd.prog 73 (List.toArray [.func (.yield lp) #[] #[], .pointer (some ⟨b_d_c, 0, none⟩)]) w fun e W' => (∃ v, e = .returned v) ∧ ((∃ xs, xs = r0 ∧ J xs W') ∨ (∃ pre, pre <+: r0 ∧ Jx pre W')) := by
  have hI := Hp.start (Mu := []) hM
  refine calls_cw Tryd.func73 rfl Tryd.ntmps73 rfl ?_
  refine cw_seq ?_
  refine cw_regF ?_
  refine y_mkF Ky3 ReportE true hI rfl ?_
  intro b1 w2 hI3 x4
  refine s_as rfl rfl ?_
  refine Reg.nil ?_
  refine cw_seq ?_
  refine cw_seq ?_
  refine cw_regF ?_
  refine s_fa rfl Tryd.underlying92 rfl Tryd.sizeOf90 rfl ?_
  refine s_fa rfl Tryd.underlying90 rfl Tryd.sizeOf88 rfl ?_
  refine s_ld rfl ((c_d_c.adv hI3.adv).cells.at 0 rfl) Tryd.isAgg88 rfl ?_
  refine y_rg hI3 (f_d_c_0.adv hI3.adv) rfl Tryd.underlying88 rfl ?_
  intro r5 b6 c7 es8 xs9 w10 hX11 hL12 hI13 x14
  refine Reg.nil ?_
  obtain ⟨j15, h16, h⟩ := bnd h
  refine cw_sub (L := [(18, _), (0, _), (1, _), (3, _)]) (Sub.cons rfl (Sub.cons rfl (Sub.cons rfl (Sub.cons rfl (Sub.nil _))))) ?_
  refine cw_unitD 1 (ι := (FMap Int Report)) (fun x17 => []) (fun x17 => fun w18 => Hp w [] M [mapO Ky3 ReportE true b1 x17] w18 ∧ Adv (mm [itR r5 b6 c7 es8 xs9 none xs9, mapO Ky3 ReportE true b1 fnone] M) (mm [mapO Ky3 ReportE true b1 x17] M) w10 w18 ∧ x17 = j15) ?_ ?_
  · skip
    refine cw_block ?_
    refine cw_sub (L := [(0, _), (1, _), (3, _), (18, _)]) (Sub.cons rfl (Sub.cons rfl (Sub.cons rfl (Sub.cons rfl (Sub.nil _))))) ?_
    refine cw_loopA 0 (ι := (FMap Int Report)) _ (fun x22 => []) (fun x22 => x22) (fun x22 => fun l21 w23 => Hp w [] M [itR r5 b6 c7 es8 xs9 none l21, mapO Ky3 ReportE true b1 x22] w23 ∧ Adv (mm [itR r5 b6 c7 es8 xs9 none xs9, mapO Ky3 ReportE true b1 fnone] M) (mm [itR r5 b6 c7 es8 xs9 none l21, mapO Ky3 ReportE true b1 x22] M) w10 w23) fnone xs9 (anyM_out h16 hL12) ⟨hI13, (Adv.refl _ _)⟩ (Sub.cons rfl (Sub.cons rfl (Sub.cons rfl (Sub.cons rfl (Sub.nil _))))) ?_
    rintro x22 l21 w23 ⟨hI24, hA25⟩ h27 hR28
    refine cw_seq ?_
    refine cw_regF ?_
    refine y_nx 0 hI24 (hX11.adv (x14.trans hA25)) rfl rfl rfl (fun hn29 => ?_) ?_
    · skip
      obtain rfl := h27 hn29
      have hI39 := hI24.erase 0
      refine s_xt rfl rfl rfl ?_
      refine Reg.nil ?_
      refine cw_seq ?_
      refine cw_condF rfl ?_
      refine cw_exit ?_
      refine exB_same ?_
      refine ⟨rfl, x22, ⟨hI39, (hA25.trans (Hp.eraseA (σ := [itR r5 b6 c7 es8 xs9 none l21, mapO Ky3 ReportE true b1 x22]) (M := M) 0)), rfl⟩, Sub.cons rfl (Sub.cons rfl (Sub.cons rfl (Sub.nil _)))⟩
    · skip
      intro y30 l31 k32 v33 w34 hp35 hI36 x37
      obtain ⟨shB38, hB38⟩ := hR28 y30 l31 hp35
      have zhB38 := hB38
      refine s_xt rfl rfl rfl ?_
      refine Reg.nil ?_
      refine cw_seq ?_
      refine cw_condT rfl ?_
      refine cw_skip ?_
      obtain ⟨j40, h41, hB38⟩ := bnd hB38
      refine cw_sub (L := [(0, _), (1, _), (3, _), (18, _)]) (Sub.cons rfl (Sub.cons rfl (Sub.cons rfl (Sub.cons rfl (Sub.nil _))))) ?_
      refine cw_unitD 0 (ι := (FMap Int Report)) (fun x42 => []) (fun x42 => fun w43 => Hp w [] M [itR r5 b6 c7 es8 xs9 none l31, mapO Ky3 ReportE true b1 x42] w43 ∧ Adv (mm [itR r5 b6 c7 es8 xs9 (some y30) l31, mapO Ky3 ReportE true b1 x22] M) (mm [itR r5 b6 c7 es8 xs9 none l31, mapO Ky3 ReportE true b1 x42] M) w34 w43 ∧ x42 = j40) ?_ ?_
      · skip
        refine cw_block ?_
        refine cw_seq ?_
        refine cw_regF ?_
        refine y_en 0 hI36 (hX11.adv (x14.trans (hA25.trans x37))) rfl rfl rfl ?_
        intro v46 hk47 hv48
        obtain ⟨cs49, hR50, rfl⟩ := Vl.agg hv48
        obtain ⟨rfl, r51, r52, r53, r54, r55, r56, r57, r58⟩ := ReportE_R.1 hR50
        have hI59 := hI36.itOff 0 rfl
        refine s_xt rfl rfl rfl ?_
        refine s_xt rfl rfl rfl ?_
        refine y_al hI59 Tryd.zeroValue61 rfl rfl ?_
        intro b60 w61 hI62 x63
        refine s_as rfl rfl ?_
        refine y_st 0 hI62 rfl rfl rfl rfl Tryd.sizeOf61 rfl rfl (one1 rfl (one1 rfl (one1 rfl (one1 rfl (one1 rfl (one1 rfl (one1 rfl (one1 rfl one0)))))))) ?_
        intro w64 hI65 x66
        refine Reg.nil ?_
        obtain ⟨j67, h68, h41⟩ := bnd h41
        refine cw_sub (L := [(0, _), (1, _), (3, _), (4, _), (5, _), (18, _)]) (Sub.cons rfl (Sub.cons rfl (Sub.cons rfl (Sub.cons rfl (Sub.cons rfl (Sub.cons rfl (Sub.nil _))))))) ?_
        refine cw_seqD 0 (ι := Int × Int) (fun ⟨x69, x71⟩ => []) (fun ⟨x69, x71⟩ => fun w73 => Hp w [] M [rowR 61 b60 [Value.int IntKind.i64 (y30.2.id), Value.int IntKind.i64 (y30.2.source), Value.int IntKind.i64 (y30.2.account), Value.int IntKind.i64 (y30.2.made), Value.int IntKind.i64 (x69), Value.int IntKind.u8 (y30.2.kind), Value.int IntKind.i64 (x71), Value.int IntKind.i64 (y30.2.of_)], itR r5 b6 c7 es8 xs9 none l31, mapO Ky3 ReportE true b1 x22] w73 ∧ Adv (mm [rowR 61 b60 [Value.int IntKind.i64 (y30.2.id), Value.int IntKind.i64 (y30.2.source), Value.int IntKind.i64 (y30.2.account), Value.int IntKind.i64 (y30.2.made), Value.int IntKind.i64 (y30.2.about), Value.int IntKind.u8 (y30.2.kind), Value.int IntKind.i64 (y30.2.cents), Value.int IntKind.i64 (y30.2.of_)], itR r5 b6 c7 es8 xs9 none l31, mapO Ky3 ReportE true b1 x22] M) (mm [rowR 61 b60 [Value.int IntKind.i64 (y30.2.id), Value.int IntKind.i64 (y30.2.source), Value.int IntKind.i64 (y30.2.account), Value.int IntKind.i64 (y30.2.made), Value.int IntKind.i64 (x69), Value.int IntKind.u8 (y30.2.kind), Value.int IntKind.i64 (x71), Value.int IntKind.i64 (y30.2.of_)], itR r5 b6 c7 es8 xs9 none l31, mapO Ky3 ReportE true b1 x22] M) w64 w73 ∧ InK IntKind.i64 x69 ∧ InK IntKind.i64 x71 ∧ (x69, x71) = j67) ?_ ?_
        · skip
          refine cw_seq ?_
          refine cw_regF ?_
          refine s_fa rfl Tryd.underlying92 rfl Tryd.sizeOf79 rfl ?_
          refine s_ld rfl ((c_d_c.adv hI65.adv).cells.at 2 rfl) Tryd.isAgg79 rfl ?_
          refine s_mv rfl rfl ?_
          obtain ⟨y76, hy76, h68⟩ := bnd h68
          refine s_lkF (a := y30.1) (z0 := 0) (f_d_c_2.adv hI65.adv) rfl rfl (show InK IntKind.i64 y30.1 from (show InK IntKind.i64 y30.1 from hk47)) Tryd.underlying79 Tryd.zeroValue3 ⟨_, ⟨rfl, (by decide)⟩, .inr ⟨rfl, rfl⟩⟩ rfl ?_
          intro v77 hv78
          rw [Option.some.inj hy76] at hv78
          have hR79 := Vl.one1 hv78
          obtain ⟨r80', r80⟩ := hR79
          obtain rfl := one_inj r80'
          refine s_mv rfl rfl ?_
          refine s_xt rfl rfl rfl ?_
          refine s_xt rfl rfl rfl ?_
          refine s_as rfl rfl ?_
          refine s_as rfl rfl ?_
          refine Reg.nil ?_
          refine cw_seq ?_
          refine cw_regF ?_
          refine s_mv rfl rfl ?_
          refine Reg.nil ?_
          obtain ⟨j81, h82, h68⟩ := bnd h68
          refine cw_sub (L := [(6, _), (31, _), (0, _), (1, _), (3, _), (4, _), (5, _), (18, _)]) (Sub.cons rfl (Sub.cons rfl (Sub.cons rfl (Sub.cons rfl (Sub.cons rfl (Sub.cons rfl (Sub.cons rfl (Sub.cons rfl (Sub.nil _))))))))) ?_
          refine cw_unitD 2 (ι := Int × Int) (fun ⟨x83, x85⟩ => []) (fun ⟨x83, x85⟩ => fun w87 => Hp w [] M [rowR 61 b60 [Value.int IntKind.i64 (y30.2.id), Value.int IntKind.i64 (y30.2.source), Value.int IntKind.i64 (y30.2.account), Value.int IntKind.i64 (y30.2.made), Value.int IntKind.i64 (x83), Value.int IntKind.u8 (y30.2.kind), Value.int IntKind.i64 (x85), Value.int IntKind.i64 (y30.2.of_)], itR r5 b6 c7 es8 xs9 none l31, mapO Ky3 ReportE true b1 x22] w87 ∧ Adv (mm [rowR 61 b60 [Value.int IntKind.i64 (y30.2.id), Value.int IntKind.i64 (y30.2.source), Value.int IntKind.i64 (y30.2.account), Value.int IntKind.i64 (y30.2.made), Value.int IntKind.i64 (y30.2.about), Value.int IntKind.u8 (y30.2.kind), Value.int IntKind.i64 (y30.2.cents), Value.int IntKind.i64 (y30.2.of_)], itR r5 b6 c7 es8 xs9 none l31, mapO Ky3 ReportE true b1 x22] M) (mm [rowR 61 b60 [Value.int IntKind.i64 (y30.2.id), Value.int IntKind.i64 (y30.2.source), Value.int IntKind.i64 (y30.2.account), Value.int IntKind.i64 (y30.2.made), Value.int IntKind.i64 (x83), Value.int IntKind.u8 (y30.2.kind), Value.int IntKind.i64 (x85), Value.int IntKind.i64 (y30.2.of_)], itR r5 b6 c7 es8 xs9 none l31, mapO Ky3 ReportE true b1 x22] M) w64 w87 ∧ InK IntKind.i64 x83 ∧ InK IntKind.i64 x85 ∧ (x83, x85) = j81) ?_ ?_
          · skip
            refine cw_cond rfl (fun hc90 => ?_) (fun hc90 => ?_)
            · replace h82 := cdT hc90 h82
              obtain ⟨j91, h92, h82⟩ := bnd h82
              refine cw_sub (L := [(6, _), (0, _), (1, _), (3, _), (4, _), (5, _), (18, _)]) (Sub.cons rfl (Sub.cons rfl (Sub.cons rfl (Sub.cons rfl (Sub.cons rfl (Sub.cons rfl (Sub.cons rfl (Sub.nil _)))))))) ?_
              refine cw_unitD 1 (ι := Int × Int) (fun ⟨x93, x95⟩ => []) (fun ⟨x93, x95⟩ => fun w97 => Hp w [] M [rowR 61 b60 [Value.int IntKind.i64 (y30.2.id), Value.int IntKind.i64 (y30.2.source), Value.int IntKind.i64 (y30.2.account), Value.int IntKind.i64 (y30.2.made), Value.int IntKind.i64 (x93), Value.int IntKind.u8 (y30.2.kind), Value.int IntKind.i64 (x95), Value.int IntKind.i64 (y30.2.of_)], itR r5 b6 c7 es8 xs9 none l31, mapO Ky3 ReportE true b1 x22] w97 ∧ Adv (mm [rowR 61 b60 [Value.int IntKind.i64 (y30.2.id), Value.int IntKind.i64 (y30.2.source), Value.int IntKind.i64 (y30.2.account), Value.int IntKind.i64 (y30.2.made), Value.int IntKind.i64 (y30.2.about), Value.int IntKind.u8 (y30.2.kind), Value.int IntKind.i64 (y30.2.cents), Value.int IntKind.i64 (y30.2.of_)], itR r5 b6 c7 es8 xs9 none l31, mapO Ky3 ReportE true b1 x22] M) (mm [rowR 61 b60 [Value.int IntKind.i64 (y30.2.id), Value.int IntKind.i64 (y30.2.source), Value.int IntKind.i64 (y30.2.account), Value.int IntKind.i64 (y30.2.made), Value.int IntKind.i64 (x93), Value.int IntKind.u8 (y30.2.kind), Value.int IntKind.i64 (x95), Value.int IntKind.i64 (y30.2.of_)], itR r5 b6 c7 es8 xs9 none l31, mapO Ky3 ReportE true b1 x22] M) w64 w97 ∧ InK IntKind.i64 x93 ∧ InK IntKind.i64 x95 ∧ (x93, x95) = j91) ?_ ?_
              · skip
                refine cw_regSea [0, 1, 2, 3, 4, 5, 9, 12] [6, 7, 8, 10, 11, 13, 14, 15] [] [13, 15] [[13, 0], [13, 1], [13, 2], [13, 4], [13, 5], [13, 12], [15, 0], [15, 1], [15, 2], [15, 4], [15, 5], [15, 12]] [] fol (by kernel_rfl) rfl (by kernel_rfl) rfl rfl ?_
                refine s_fa rfl Tryd.underlying92 rfl Tryd.sizeOf90 rfl ?_
                refine s_fa rfl Tryd.underlying90 rfl Tryd.sizeOf88 rfl ?_
                refine s_ld rfl ((c_d_c.adv hI65.adv).cells.at 0 rfl) Tryd.isAgg88 rfl ?_
                refine s_mv rfl rfl ?_
                obtain ⟨y100, hy100, h92⟩ := bnd h92
                refine s_lkF1 (a := y76) (z0 := (Report.mk 0 0 0 0 0 0 0 0)) (f_d_c_0.adv hI65.adv) rfl rfl (show InK IntKind.i64 y76 from r80) Tryd.underlying88 Tryd.zeroValue61 ⟨_, ((ReportE_R (x := (Report.mk 0 0 0 0 0 0 0 0))).2 ⟨rfl, (by decide), (by decide), (by decide), (by decide), (by decide), (by decide), (by decide), (by decide)⟩), .inl ⟨rfl, rfl⟩⟩ rfl ?_
                intro v101 hv102
                rw [Option.some.inj hy100] at hv102
                obtain ⟨cs103, hR104, rfl⟩ := Vl.agg hv102
                obtain ⟨rfl, r105, r106, r107, r108, r109, r110, r111, r112⟩ := ReportE_R.1 hR104
                refine s_fd rfl Tryd.underlying61 rfl Tryd.isAgg3 rfl rfl ?_
                refine s_mv rfl rfl ?_
                refine s_fa rfl Tryd.underlying61 rfl Tryd.sizeOf3 rfl ?_
                refine Reg.nilX ⟨rfl, rfl, rfl, ?_⟩
                intro w113 e114
                have hI115 := (Hp.start (Mu := []) hI65.mlt).ext e114
                obtain ⟨y125, hy125, h92⟩ := bnd h92
                refine SeaWalk.step [6, 13] (by kernel_rfl) (AllL.cons ?_ (AllL.cons ?_ (AllL.nil)))
                · skip
                  refine ⟨_, [], rfl, RSub.nil, rfl, nodupB_spec rfl, ?_⟩
                  simp only [relOut]
                  refine s_fa rfl Tryd.underlying92 rfl Tryd.sizeOf90 rfl ?_
                  refine Reg.nil ⟨rfl, .inr hI115.kp, rfl, ?_⟩
                  intro w160 e161
                  have hI162 := hI115.ext e161
                  refine SeaWalk.step [7, 13] (by kernel_rfl) (AllL.cons ?_ (AllL.cons ?_ (AllL.nil)))
                  · skip
                    refine ⟨_, [], rfl, RSub.nil, rfl, nodupB_spec rfl, ?_⟩
                    simp only [relOut]
                    refine s_fa rfl Tryd.underlying90 rfl Tryd.sizeOf88 rfl ?_
                    refine Reg.nil ⟨rfl, .inr hI162.kp, rfl, ?_⟩
                    intro w163 e164
                    have hI165 := hI162.ext e164
                    refine SeaWalk.step [8, 13] (by kernel_rfl) (AllL.cons ?_ (AllL.cons ?_ (AllL.nil)))
                    · skip
                      refine ⟨_, [], rfl, RSub.nil, rfl, nodupB_spec rfl, ?_⟩
                      simp only [relOut]
                      refine s_ld rfl ((c_d_c.adv (hI65.adv.trans ((Adv.of_ext e114).trans ((Adv.of_ext e161).trans (Adv.of_ext e164))))).cells.at 0 rfl) Tryd.isAgg88 rfl ?_
                      refine Reg.nil ⟨rfl, .inr hI165.kp, rfl, ?_⟩
                      intro w166 e167
                      have hI168 := hI165.ext e167
                      refine SeaWalk.step [10, 13] (by kernel_rfl) (AllL.cons ?_ (AllL.cons ?_ (AllL.nil)))
                      · skip
                        refine ⟨_, [], rfl, RSub.nil, rfl, nodupB_spec rfl, ?_⟩
                        simp only [relOut]
                        refine s_lkF1 (a := y76) (z0 := (Report.mk 0 0 0 0 0 0 0 0)) (f_d_c_0.adv (hI65.adv.trans ((Adv.of_ext e114).trans ((Adv.of_ext e161).trans ((Adv.of_ext e164).trans (Adv.of_ext e167)))))) rfl rfl (show InK IntKind.i64 y76 from r80) Tryd.underlying88 Tryd.zeroValue61 ⟨_, ((ReportE_R (x := (Report.mk 0 0 0 0 0 0 0 0))).2 ⟨rfl, (by decide), (by decide), (by decide), (by decide), (by decide), (by decide), (by decide), (by decide)⟩), .inl ⟨rfl, rfl⟩⟩ rfl ?_
                        intro v169 hv170
                        rw [Option.some.inj hy125] at hv170
                        obtain ⟨cs171, hR172, rfl⟩ := Vl.agg hv170
                        obtain ⟨rfl, r173, r174, r175, r176, r177, r178, r179, r180⟩ := ReportE_R.1 hR172
                        refine Reg.nil ⟨rfl, .inr hI168.kp, rfl, ?_⟩
                        intro w181 e182
                        have hI183 := hI168.ext e182
                        refine SeaWalk.step [11, 13] (by kernel_rfl) (AllL.cons ?_ (AllL.cons ?_ (AllL.nil)))
                        · skip
                          refine ⟨_, [], rfl, RSub.nil, rfl, nodupB_spec rfl, ?_⟩
                          simp only [relOut]
                          refine s_fd rfl Tryd.underlying61 rfl Tryd.isAgg3 rfl rfl ?_
                          refine Reg.nil ⟨rfl, .inr hI183.kp, rfl, ?_⟩
                          intro w184 e185
                          have hI186 := hI183.ext e185
                          refine SeaWalk.step [13] (by kernel_rfl) (AllL.cons ?_ (AllL.nil))
                          refine ⟨_, [], rfl, RSub.nil, rfl, nodupB_spec rfl, ?_⟩
                          simp only [relOut]
                          have hI187 := hI65.join hI186
                          refine y_st 0 hI187 rfl rfl rfl rfl Tryd.sizeOf3 rfl rfl (one1 rfl one0) ?_
                          intro w188 hI189 x190
                          refine Reg.nil ⟨rfl, .inl rfl, rfl, ?_⟩
                          intro w191 e192
                          have hI193 := hI189.ext e192
                          refine SeaWalk.step [14] (by kernel_rfl) (AllL.cons ?_ (AllL.nil))
                          refine ⟨_, [], rfl, RSub.nil, rfl, nodupB_spec rfl, ?_⟩
                          simp only [relOut]
                          refine s_fa rfl Tryd.underlying61 rfl Tryd.sizeOf3 rfl ?_
                          refine Reg.nil ⟨rfl, .inl rfl, rfl, ?_⟩
                          intro w194 e195
                          have hI196 := hI193.ext e195
                          refine SeaWalk.step [15] (by kernel_rfl) (AllL.cons ?_ (AllL.nil))
                          refine ⟨_, [], rfl, RSub.nil, rfl, nodupB_spec rfl, ?_⟩
                          simp only [relOut]
                          refine y_st 0 hI196 rfl rfl rfl rfl Tryd.sizeOf3 rfl rfl (one1 rfl one0) ?_
                          intro w197 hI198 x199
                          refine Reg.nil ⟨rfl, .inl rfl, rfl, ?_⟩
                          intro w200 e201
                          have hI202 := hI198.ext e201
                          refine SeaWalk.done ?_
                          obtain rfl := Option.some.inj h92
                          refine ⟨rfl, (y100.about, y125.cents), ⟨hI202, ((Adv.of_ext e114).trans ((Adv.of_ext e161).trans ((Adv.of_ext e164).trans ((Adv.of_ext e167).trans ((Adv.of_ext e182).trans ((Adv.of_ext e185).trans (x190.trans ((Adv.of_ext e192).trans ((Adv.of_ext e195).trans (x199.trans (Adv.of_ext e201))))))))))), r109, r179, rfl⟩, Sub.cons rfl (Sub.cons rfl (Sub.cons rfl (Sub.cons rfl (Sub.cons rfl (Sub.cons rfl (Sub.nil _))))))⟩
                        · skip
                          refine ⟨_, [], rfl, RSub.nil, rfl, nodupB_spec rfl, ?_⟩
                          simp only [relOut]
                          have hI203 := hI65.join hI183
                          refine y_st 0 hI203 rfl rfl rfl rfl Tryd.sizeOf3 rfl rfl (one1 rfl one0) ?_
                          intro w204 hI205 x206
                          refine Reg.nil ⟨rfl, .inl rfl, rfl, ?_⟩
                          intro w207 e208
                          have hI209 := hI205.ext e208
                          refine SeaWalk.step [11] (by kernel_rfl) (AllL.cons ?_ (AllL.nil))
                          refine ⟨_, [], rfl, RSub.nil, rfl, nodupB_spec rfl, ?_⟩
                          simp only [relOut]
                          refine s_fd rfl Tryd.underlying61 rfl Tryd.isAgg3 rfl rfl ?_
                          refine Reg.nil ⟨rfl, .inl rfl, rfl, ?_⟩
                          intro w210 e211
                          have hI212 := hI209.ext e211
                          refine SeaWalk.step [14] (by kernel_rfl) (AllL.cons ?_ (AllL.nil))
                          refine ⟨_, [], rfl, RSub.nil, rfl, nodupB_spec rfl, ?_⟩
                          simp only [relOut]
                          refine s_fa rfl Tryd.underlying61 rfl Tryd.sizeOf3 rfl ?_
                          refine Reg.nil ⟨rfl, .inl rfl, rfl, ?_⟩
                          intro w213 e214
                          have hI215 := hI212.ext e214
                          refine SeaWalk.step [15] (by kernel_rfl) (AllL.cons ?_ (AllL.nil))
                          refine ⟨_, [], rfl, RSub.nil, rfl, nodupB_spec rfl, ?_⟩
                          simp only [relOut]
                          refine y_st 0 hI215 rfl rfl rfl rfl Tryd.sizeOf3 rfl rfl (one1 rfl one0) ?_
                          intro w216 hI217 x218
                          refine Reg.nil ⟨rfl, .inl rfl, rfl, ?_⟩
                          intro w219 e220
                          have hI221 := hI217.ext e220
                          refine SeaWalk.done ?_
                          obtain rfl := Option.some.inj h92
                          refine ⟨rfl, (y100.about, y125.cents), ⟨hI221, ((Adv.of_ext e114).trans ((Adv.of_ext e161).trans ((Adv.of_ext e164).trans ((Adv.of_ext e167).trans ((Adv.of_ext e182).trans (x206.trans ((Adv.of_ext e208).trans ((Adv.of_ext e211).trans ((Adv.of_ext e214).trans (x218.trans (Adv.of_ext e220))))))))))), r109, r179, rfl⟩, Sub.cons rfl (Sub.cons rfl (Sub.cons rfl (Sub.cons rfl (Sub.cons rfl (Sub.cons rfl (Sub.nil _))))))⟩
                      · skip
                        refine ⟨_, [], rfl, RSub.nil, rfl, nodupB_spec rfl, ?_⟩
                        simp only [relOut]
                        have hI222 := hI65.join hI168
                        refine y_st 0 hI222 rfl rfl rfl rfl Tryd.sizeOf3 rfl rfl (one1 rfl one0) ?_
                        intro w223 hI224 x225
                        refine Reg.nil ⟨rfl, .inl rfl, rfl, ?_⟩
                        intro w226 e227
                        have hI228 := hI224.ext e227
                        refine SeaWalk.step [10] (by kernel_rfl) (AllL.cons ?_ (AllL.nil))
                        refine ⟨_, [], rfl, RSub.nil, rfl, nodupB_spec rfl, ?_⟩
                        simp only [relOut]
                        refine s_lkF1 (a := y76) (z0 := (Report.mk 0 0 0 0 0 0 0 0)) (f_d_c_0.adv hI228.adv) rfl rfl (show InK IntKind.i64 y76 from r80) Tryd.underlying88 Tryd.zeroValue61 ⟨_, ((ReportE_R (x := (Report.mk 0 0 0 0 0 0 0 0))).2 ⟨rfl, (by decide), (by decide), (by decide), (by decide), (by decide), (by decide), (by decide), (by decide)⟩), .inl ⟨rfl, rfl⟩⟩ rfl ?_
                        intro v229 hv230
                        rw [Option.some.inj hy125] at hv230
                        obtain ⟨cs231, hR232, rfl⟩ := Vl.agg hv230
                        obtain ⟨rfl, r233, r234, r235, r236, r237, r238, r239, r240⟩ := ReportE_R.1 hR232
                        refine Reg.nil ⟨rfl, .inl rfl, rfl, ?_⟩
                        intro w241 e242
                        have hI243 := hI228.ext e242
                        refine SeaWalk.step [11] (by kernel_rfl) (AllL.cons ?_ (AllL.nil))
                        refine ⟨_, [], rfl, RSub.nil, rfl, nodupB_spec rfl, ?_⟩
                        simp only [relOut]
                        refine s_fd rfl Tryd.underlying61 rfl Tryd.isAgg3 rfl rfl ?_
                        refine Reg.nil ⟨rfl, .inl rfl, rfl, ?_⟩
                        intro w244 e245
                        have hI246 := hI243.ext e245
                        refine SeaWalk.step [14] (by kernel_rfl) (AllL.cons ?_ (AllL.nil))
                        refine ⟨_, [], rfl, RSub.nil, rfl, nodupB_spec rfl, ?_⟩
                        simp only [relOut]
                        refine s_fa rfl Tryd.underlying61 rfl Tryd.sizeOf3 rfl ?_
                        refine Reg.nil ⟨rfl, .inl rfl, rfl, ?_⟩
                        intro w247 e248
                        have hI249 := hI246.ext e248
                        refine SeaWalk.step [15] (by kernel_rfl) (AllL.cons ?_ (AllL.nil))
                        refine ⟨_, [], rfl, RSub.nil, rfl, nodupB_spec rfl, ?_⟩
                        simp only [relOut]
                        refine y_st 0 hI249 rfl rfl rfl rfl Tryd.sizeOf3 rfl rfl (one1 rfl one0) ?_
                        intro w250 hI251 x252
                        refine Reg.nil ⟨rfl, .inl rfl, rfl, ?_⟩
                        intro w253 e254
                        have hI255 := hI251.ext e254
                        refine SeaWalk.done ?_
                        obtain rfl := Option.some.inj h92
                        refine ⟨rfl, (y100.about, y125.cents), ⟨hI255, ((Adv.of_ext e114).trans ((Adv.of_ext e161).trans ((Adv.of_ext e164).trans ((Adv.of_ext e167).trans (x225.trans ((Adv.of_ext e227).trans ((Adv.of_ext e242).trans ((Adv.of_ext e245).trans ((Adv.of_ext e248).trans (x252.trans (Adv.of_ext e254))))))))))), r109, r239, rfl⟩, Sub.cons rfl (Sub.cons rfl (Sub.cons rfl (Sub.cons rfl (Sub.cons rfl (Sub.cons rfl (Sub.nil _))))))⟩
                    · skip
                      refine ⟨_, [], rfl, RSub.nil, rfl, nodupB_spec rfl, ?_⟩
                      simp only [relOut]
                      have hI256 := hI65.join hI165
                      refine y_st 0 hI256 rfl rfl rfl rfl Tryd.sizeOf3 rfl rfl (one1 rfl one0) ?_
                      intro w257 hI258 x259
                      refine Reg.nil ⟨rfl, .inl rfl, rfl, ?_⟩
                      intro w260 e261
                      have hI262 := hI258.ext e261
                      refine SeaWalk.step [8] (by kernel_rfl) (AllL.cons ?_ (AllL.nil))
                      refine ⟨_, [], rfl, RSub.nil, rfl, nodupB_spec rfl, ?_⟩
                      simp only [relOut]
                      refine s_ld rfl ((c_d_c.adv hI262.adv).cells.at 0 rfl) Tryd.isAgg88 rfl ?_
                      refine Reg.nil ⟨rfl, .inl rfl, rfl, ?_⟩
                      intro w263 e264
                      have hI265 := hI262.ext e264
                      refine SeaWalk.step [10] (by kernel_rfl) (AllL.cons ?_ (AllL.nil))
                      refine ⟨_, [], rfl, RSub.nil, rfl, nodupB_spec rfl, ?_⟩
                      simp only [relOut]
                      refine s_lkF1 (a := y76) (z0 := (Report.mk 0 0 0 0 0 0 0 0)) (f_d_c_0.adv hI265.adv) rfl rfl (show InK IntKind.i64 y76 from r80) Tryd.underlying88 Tryd.zeroValue61 ⟨_, ((ReportE_R (x := (Report.mk 0 0 0 0 0 0 0 0))).2 ⟨rfl, (by decide), (by decide), (by decide), (by decide), (by decide), (by decide), (by decide), (by decide)⟩), .inl ⟨rfl, rfl⟩⟩ rfl ?_
                      intro v266 hv267
                      rw [Option.some.inj hy125] at hv267
                      obtain ⟨cs268, hR269, rfl⟩ := Vl.agg hv267
                      obtain ⟨rfl, r270, r271, r272, r273, r274, r275, r276, r277⟩ := ReportE_R.1 hR269
                      refine Reg.nil ⟨rfl, .inl rfl, rfl, ?_⟩
                      intro w278 e279
                      have hI280 := hI265.ext e279
                      refine SeaWalk.step [11] (by kernel_rfl) (AllL.cons ?_ (AllL.nil))
                      refine ⟨_, [], rfl, RSub.nil, rfl, nodupB_spec rfl, ?_⟩
                      simp only [relOut]
                      refine s_fd rfl Tryd.underlying61 rfl Tryd.isAgg3 rfl rfl ?_
                      refine Reg.nil ⟨rfl, .inl rfl, rfl, ?_⟩
                      intro w281 e282
                      have hI283 := hI280.ext e282
                      refine SeaWalk.step [14] (by kernel_rfl) (AllL.cons ?_ (AllL.nil))
                      refine ⟨_, [], rfl, RSub.nil, rfl, nodupB_spec rfl, ?_⟩
                      simp only [relOut]
                      refine s_fa rfl Tryd.underlying61 rfl Tryd.sizeOf3 rfl ?_
                      refine Reg.nil ⟨rfl, .inl rfl, rfl, ?_⟩
                      intro w284 e285
                      have hI286 := hI283.ext e285
                      refine SeaWalk.step [15] (by kernel_rfl) (AllL.cons ?_ (AllL.nil))
                      refine ⟨_, [], rfl, RSub.nil, rfl, nodupB_spec rfl, ?_⟩
                      simp only [relOut]
                      refine y_st 0 hI286 rfl rfl rfl rfl Tryd.sizeOf3 rfl rfl (one1 rfl one0) ?_
                      intro w287 hI288 x289
                      refine Reg.nil ⟨rfl, .inl rfl, rfl, ?_⟩
                      intro w290 e291
                      have hI292 := hI288.ext e291
                      refine SeaWalk.done ?_
                      obtain rfl := Option.some.inj h92
                      refine ⟨rfl, (y100.about, y125.cents), ⟨hI292, ((Adv.of_ext e114).trans ((Adv.of_ext e161).trans ((Adv.of_ext e164).trans (x259.trans ((Adv.of_ext e261).trans ((Adv.of_ext e264).trans ((Adv.of_ext e279).trans ((Adv.of_ext e282).trans ((Adv.of_ext e285).trans (x289.trans (Adv.of_ext e291))))))))))), r109, r276, rfl⟩, Sub.cons rfl (Sub.cons rfl (Sub.cons rfl (Sub.cons rfl (Sub.cons rfl (Sub.cons rfl (Sub.nil _))))))⟩
                  · skip
                    refine ⟨_, [], rfl, RSub.nil, rfl, nodupB_spec rfl, ?_⟩
                    simp only [relOut]
                    have hI293 := hI65.join hI162
                    refine y_st 0 hI293 rfl rfl rfl rfl Tryd.sizeOf3 rfl rfl (one1 rfl one0) ?_
                    intro w294 hI295 x296
                    refine Reg.nil ⟨rfl, .inl rfl, rfl, ?_⟩
                    intro w297 e298
                    have hI299 := hI295.ext e298
                    refine SeaWalk.step [7] (by kernel_rfl) (AllL.cons ?_ (AllL.nil))
                    refine ⟨_, [], rfl, RSub.nil, rfl, nodupB_spec rfl, ?_⟩
                    simp only [relOut]
                    refine s_fa rfl Tryd.underlying90 rfl Tryd.sizeOf88 rfl ?_
                    refine Reg.nil ⟨rfl, .inl rfl, rfl, ?_⟩
                    intro w300 e301
                    have hI302 := hI299.ext e301
                    refine SeaWalk.step [8] (by kernel_rfl) (AllL.cons ?_ (AllL.nil))
                    refine ⟨_, [], rfl, RSub.nil, rfl, nodupB_spec rfl, ?_⟩
                    simp only [relOut]
                    refine s_ld rfl ((c_d_c.adv hI302.adv).cells.at 0 rfl) Tryd.isAgg88 rfl ?_
                    refine Reg.nil ⟨rfl, .inl rfl, rfl, ?_⟩
                    intro w303 e304
                    have hI305 := hI302.ext e304
                    refine SeaWalk.step [10] (by kernel_rfl) (AllL.cons ?_ (AllL.nil))
                    refine ⟨_, [], rfl, RSub.nil, rfl, nodupB_spec rfl, ?_⟩
                    simp only [relOut]
                    refine s_lkF1 (a := y76) (z0 := (Report.mk 0 0 0 0 0 0 0 0)) (f_d_c_0.adv hI305.adv) rfl rfl (show InK IntKind.i64 y76 from r80) Tryd.underlying88 Tryd.zeroValue61 ⟨_, ((ReportE_R (x := (Report.mk 0 0 0 0 0 0 0 0))).2 ⟨rfl, (by decide), (by decide), (by decide), (by decide), (by decide), (by decide), (by decide), (by decide)⟩), .inl ⟨rfl, rfl⟩⟩ rfl ?_
                    intro v306 hv307
                    rw [Option.some.inj hy125] at hv307
                    obtain ⟨cs308, hR309, rfl⟩ := Vl.agg hv307
                    obtain ⟨rfl, r310, r311, r312, r313, r314, r315, r316, r317⟩ := ReportE_R.1 hR309
                    refine Reg.nil ⟨rfl, .inl rfl, rfl, ?_⟩
                    intro w318 e319
                    have hI320 := hI305.ext e319
                    refine SeaWalk.step [11] (by kernel_rfl) (AllL.cons ?_ (AllL.nil))
                    refine ⟨_, [], rfl, RSub.nil, rfl, nodupB_spec rfl, ?_⟩
                    simp only [relOut]
                    refine s_fd rfl Tryd.underlying61 rfl Tryd.isAgg3 rfl rfl ?_
                    refine Reg.nil ⟨rfl, .inl rfl, rfl, ?_⟩
                    intro w321 e322
                    have hI323 := hI320.ext e322
                    refine SeaWalk.step [14] (by kernel_rfl) (AllL.cons ?_ (AllL.nil))
                    refine ⟨_, [], rfl, RSub.nil, rfl, nodupB_spec rfl, ?_⟩
                    simp only [relOut]
                    refine s_fa rfl Tryd.underlying61 rfl Tryd.sizeOf3 rfl ?_
                    refine Reg.nil ⟨rfl, .inl rfl, rfl, ?_⟩
                    intro w324 e325
                    have hI326 := hI323.ext e325
                    refine SeaWalk.step [15] (by kernel_rfl) (AllL.cons ?_ (AllL.nil))
                    refine ⟨_, [], rfl, RSub.nil, rfl, nodupB_spec rfl, ?_⟩
                    simp only [relOut]
                    refine y_st 0 hI326 rfl rfl rfl rfl Tryd.sizeOf3 rfl rfl (one1 rfl one0) ?_
                    intro w327 hI328 x329
                    refine Reg.nil ⟨rfl, .inl rfl, rfl, ?_⟩
                    intro w330 e331
                    have hI332 := hI328.ext e331
                    refine SeaWalk.done ?_
                    obtain rfl := Option.some.inj h92
                    refine ⟨rfl, (y100.about, y125.cents), ⟨hI332, ((Adv.of_ext e114).trans ((Adv.of_ext e161).trans (x296.trans ((Adv.of_ext e298).trans ((Adv.of_ext e301).trans ((Adv.of_ext e304).trans ((Adv.of_ext e319).trans ((Adv.of_ext e322).trans ((Adv.of_ext e325).trans (x329.trans (Adv.of_ext e331))))))))))), r109, r316, rfl⟩, Sub.cons rfl (Sub.cons rfl (Sub.cons rfl (Sub.cons rfl (Sub.cons rfl (Sub.cons rfl (Sub.nil _))))))⟩
                · skip
                  refine ⟨_, [], rfl, RSub.nil, rfl, nodupB_spec rfl, ?_⟩
                  simp only [relOut]
                  have hI333 := hI65.join hI115
                  refine y_st 0 hI333 rfl rfl rfl rfl Tryd.sizeOf3 rfl rfl (one1 rfl one0) ?_
                  intro w334 hI335 x336
                  refine Reg.nil ⟨rfl, .inl rfl, rfl, ?_⟩
                  intro w337 e338
                  have hI339 := hI335.ext e338
                  refine SeaWalk.step [6] (by kernel_rfl) (AllL.cons ?_ (AllL.nil))
                  refine ⟨_, [], rfl, RSub.nil, rfl, nodupB_spec rfl, ?_⟩
                  simp only [relOut]
                  refine s_fa rfl Tryd.underlying92 rfl Tryd.sizeOf90 rfl ?_
                  refine Reg.nil ⟨rfl, .inl rfl, rfl, ?_⟩
                  intro w340 e341
                  have hI342 := hI339.ext e341
                  refine SeaWalk.step [7] (by kernel_rfl) (AllL.cons ?_ (AllL.nil))
                  refine ⟨_, [], rfl, RSub.nil, rfl, nodupB_spec rfl, ?_⟩
                  simp only [relOut]
                  refine s_fa rfl Tryd.underlying90 rfl Tryd.sizeOf88 rfl ?_
                  refine Reg.nil ⟨rfl, .inl rfl, rfl, ?_⟩
                  intro w343 e344
                  have hI345 := hI342.ext e344
                  refine SeaWalk.step [8] (by kernel_rfl) (AllL.cons ?_ (AllL.nil))
                  refine ⟨_, [], rfl, RSub.nil, rfl, nodupB_spec rfl, ?_⟩
                  simp only [relOut]
                  refine s_ld rfl ((c_d_c.adv hI345.adv).cells.at 0 rfl) Tryd.isAgg88 rfl ?_
                  refine Reg.nil ⟨rfl, .inl rfl, rfl, ?_⟩
                  intro w346 e347
                  have hI348 := hI345.ext e347
                  refine SeaWalk.step [10] (by kernel_rfl) (AllL.cons ?_ (AllL.nil))
                  refine ⟨_, [], rfl, RSub.nil, rfl, nodupB_spec rfl, ?_⟩
                  simp only [relOut]
                  refine s_lkF1 (a := y76) (z0 := (Report.mk 0 0 0 0 0 0 0 0)) (f_d_c_0.adv hI348.adv) rfl rfl (show InK IntKind.i64 y76 from r80) Tryd.underlying88 Tryd.zeroValue61 ⟨_, ((ReportE_R (x := (Report.mk 0 0 0 0 0 0 0 0))).2 ⟨rfl, (by decide), (by decide), (by decide), (by decide), (by decide), (by decide), (by decide), (by decide)⟩), .inl ⟨rfl, rfl⟩⟩ rfl ?_
                  intro v349 hv350
                  rw [Option.some.inj hy125] at hv350
                  obtain ⟨cs351, hR352, rfl⟩ := Vl.agg hv350
                  obtain ⟨rfl, r353, r354, r355, r356, r357, r358, r359, r360⟩ := ReportE_R.1 hR352
                  refine Reg.nil ⟨rfl, .inl rfl, rfl, ?_⟩
                  intro w361 e362
                  have hI363 := hI348.ext e362
                  refine SeaWalk.step [11] (by kernel_rfl) (AllL.cons ?_ (AllL.nil))
                  refine ⟨_, [], rfl, RSub.nil, rfl, nodupB_spec rfl, ?_⟩
                  simp only [relOut]
                  refine s_fd rfl Tryd.underlying61 rfl Tryd.isAgg3 rfl rfl ?_
                  refine Reg.nil ⟨rfl, .inl rfl, rfl, ?_⟩
                  intro w364 e365
                  have hI366 := hI363.ext e365
                  refine SeaWalk.step [14] (by kernel_rfl) (AllL.cons ?_ (AllL.nil))
                  refine ⟨_, [], rfl, RSub.nil, rfl, nodupB_spec rfl, ?_⟩
                  simp only [relOut]
                  refine s_fa rfl Tryd.underlying61 rfl Tryd.sizeOf3 rfl ?_
                  refine Reg.nil ⟨rfl, .inl rfl, rfl, ?_⟩
                  intro w367 e368
                  have hI369 := hI366.ext e368
                  refine SeaWalk.step [15] (by kernel_rfl) (AllL.cons ?_ (AllL.nil))
                  refine ⟨_, [], rfl, RSub.nil, rfl, nodupB_spec rfl, ?_⟩
                  simp only [relOut]
                  refine y_st 0 hI369 rfl rfl rfl rfl Tryd.sizeOf3 rfl rfl (one1 rfl one0) ?_
                  intro w370 hI371 x372
                  refine Reg.nil ⟨rfl, .inl rfl, rfl, ?_⟩
                  intro w373 e374
                  have hI375 := hI371.ext e374
                  refine SeaWalk.done ?_
                  obtain rfl := Option.some.inj h92
                  refine ⟨rfl, (y100.about, y125.cents), ⟨hI375, ((Adv.of_ext e114).trans (x336.trans ((Adv.of_ext e338).trans ((Adv.of_ext e341).trans ((Adv.of_ext e344).trans ((Adv.of_ext e347).trans ((Adv.of_ext e362).trans ((Adv.of_ext e365).trans ((Adv.of_ext e368).trans (x372.trans (Adv.of_ext e374))))))))))), r109, r359, rfl⟩, Sub.cons rfl (Sub.cons rfl (Sub.cons rfl (Sub.cons rfl (Sub.cons rfl (Sub.cons rfl (Sub.nil _))))))⟩
              · skip
                rintro ⟨x93, x95⟩ w97 ⟨hI98, hA99, r94, r96, rfl⟩
                obtain rfl := Option.some.inj h82
                refine ⟨rfl, (x93, x95), ⟨hI98, hA99, r94, r96, rfl⟩, Sub.cons rfl (Sub.cons rfl (Sub.cons rfl (Sub.cons rfl (Sub.cons rfl (Sub.cons rfl (Sub.nil _))))))⟩
            · replace h82 := cdF hc90 h82
              refine cw_skip ?_
              obtain rfl := Option.some.inj h82
              refine ⟨rfl, (y30.2.about, y30.2.cents), ⟨hI65, (Adv.refl _ _), r55, r57, rfl⟩, Sub.cons rfl (Sub.cons rfl (Sub.cons rfl (Sub.cons rfl (Sub.cons rfl (Sub.cons rfl (Sub.nil _))))))⟩
          · skip
            rintro ⟨x83, x85⟩ w87 ⟨hI88, hA89, r84, r86, rfl⟩
            obtain rfl := Option.some.inj h68
            refine ⟨rfl, (x83, x85), ⟨hI88, hA89, r84, r86, rfl⟩, Sub.cons rfl (Sub.cons rfl (Sub.cons rfl (Sub.cons rfl (Sub.cons rfl (Sub.cons rfl (Sub.nil _))))))⟩
        · skip
          rintro ⟨x69, x71⟩ w73 ⟨hI74, hA75, r70, r72, rfl⟩
          refine cw_seq ?_
          refine cw_regF ?_
          refine s_lda rfl (hI74.row 0 rfl).rd.cells Tryd.isAgg61 rfl Tryd.sizeOf61 rfl ?_
          obtain ⟨z376, hz377, h41⟩ := bnd h41
          refine s_call rfl Tryd.call43 rfl ?_
          refine (C_account_fact (r := (Report.mk y30.2.id y30.2.source y30.2.account y30.2.made x69 y30.2.kind x71 y30.2.of_)) hI74.mlt r51 r52 r53 r54 r70 r56 r72 r58 hz377).mono ?_
          rintro _ w378 ⟨rfl, e379⟩
          refine ⟨_, rfl, ?_⟩
          have hI380 := hI74.ext e379
          refine Reg.nil ?_
          obtain ⟨j381, h382, h41⟩ := bnd h41
          refine cw_sub (L := [(4, _), (5, _), (47, _), (0, _), (1, _), (3, _), (18, _)]) (Sub.cons rfl (Sub.cons rfl (Sub.cons rfl (Sub.cons rfl (Sub.cons rfl (Sub.cons rfl (Sub.cons rfl (Sub.nil _)))))))) ?_
          refine cw_unitD 3 (ι := (FMap Int Report)) (fun x383 => []) (fun x383 => fun w384 => Hp w [] M [rowR 61 b60 [Value.int IntKind.i64 (y30.2.id), Value.int IntKind.i64 (y30.2.source), Value.int IntKind.i64 (y30.2.account), Value.int IntKind.i64 (y30.2.made), Value.int IntKind.i64 (x69), Value.int IntKind.u8 (y30.2.kind), Value.int IntKind.i64 (x71), Value.int IntKind.i64 (y30.2.of_)], itR r5 b6 c7 es8 xs9 none l31, mapO Ky3 ReportE true b1 x383] w384 ∧ Adv (mm [rowR 61 b60 [Value.int IntKind.i64 (y30.2.id), Value.int IntKind.i64 (y30.2.source), Value.int IntKind.i64 (y30.2.account), Value.int IntKind.i64 (y30.2.made), Value.int IntKind.i64 (x69), Value.int IntKind.u8 (y30.2.kind), Value.int IntKind.i64 (x71), Value.int IntKind.i64 (y30.2.of_)], itR r5 b6 c7 es8 xs9 none l31, mapO Ky3 ReportE true b1 x22] M) (mm [rowR 61 b60 [Value.int IntKind.i64 (y30.2.id), Value.int IntKind.i64 (y30.2.source), Value.int IntKind.i64 (y30.2.account), Value.int IntKind.i64 (y30.2.made), Value.int IntKind.i64 (x69), Value.int IntKind.u8 (y30.2.kind), Value.int IntKind.i64 (x71), Value.int IntKind.i64 (y30.2.of_)], itR r5 b6 c7 es8 xs9 none l31, mapO Ky3 ReportE true b1 x383] M) w378 w384 ∧ x383 = j381) ?_ ?_
          · skip
            refine cw_cond rfl (fun hc387 => ?_) (fun hc387 => ?_)
            · replace h382 := cdT hc387 h382
              refine cw_regF ?_
              refine s_mv rfl rfl ?_
              refine s_mv rfl rfl ?_
              refine s_lda rfl (hI380.row 0 rfl).rd.cells Tryd.isAgg61 rfl Tryd.sizeOf61 rfl ?_
              refine y_upF 2 (a := y30.1) (z := (Report.mk y30.2.id y30.2.source y30.2.account y30.2.made x69 y30.2.kind x71 y30.2.of_)) hI380 rfl rfl rfl (show InK IntKind.i64 y30.1 from (show InK IntKind.i64 y30.1 from hk47)) rfl ⟨_, ((ReportE_R (x := (Report.mk y30.2.id y30.2.source y30.2.account y30.2.made x69 y30.2.kind x71 y30.2.of_))).2 ⟨rfl, r51, r52, r53, r54, r70, r56, r72, r58⟩), .inl ⟨rfl, rfl⟩⟩ Tryd.underlying88 ?_
              intro w388 hI389 x390
              refine Reg.nil ?_
              obtain rfl := Option.some.inj h382
              refine ⟨rfl, (fput x22 y30.1 (Report.mk y30.2.id y30.2.source y30.2.account y30.2.made x69 y30.2.kind x71 y30.2.of_)), ⟨hI389, x390, rfl⟩, Sub.cons rfl (Sub.cons rfl (Sub.cons rfl (Sub.cons rfl (Sub.nil _))))⟩
            · replace h382 := cdF hc387 h382
              refine cw_skip ?_
              obtain rfl := Option.some.inj h382
              refine ⟨rfl, x22, ⟨hI380, (Adv.refl _ _), rfl⟩, Sub.cons rfl (Sub.cons rfl (Sub.cons rfl (Sub.cons rfl (Sub.nil _))))⟩
          · skip
            rintro x383 w384 ⟨hI385, hA386, rfl⟩
            obtain rfl := Option.some.inj h41
            refine ⟨rfl, x383, ⟨(hI385.sel [1, 2] rfl), (((Hp.itOffA (σ := [itR r5 b6 c7 es8 xs9 (some y30) l31, mapO Ky3 ReportE true b1 x22]) (M := M) 0 rfl).trans (x63.trans (x66.trans (hA75.trans ((Adv.of_ext e379).trans hA386))))).trans (Hp.selA (σ := [rowR 61 b60 [Value.int IntKind.i64 (y30.2.id), Value.int IntKind.i64 (y30.2.source), Value.int IntKind.i64 (y30.2.account), Value.int IntKind.i64 (y30.2.made), Value.int IntKind.i64 (x69), Value.int IntKind.u8 (y30.2.kind), Value.int IntKind.i64 (x71), Value.int IntKind.i64 (y30.2.of_)], itR r5 b6 c7 es8 xs9 none l31, mapO Ky3 ReportE true b1 x383]) [1, 2])), rfl⟩, Sub.cons rfl (Sub.cons rfl (Sub.cons rfl (Sub.cons rfl (Sub.nil _))))⟩
      · skip
        rintro x42 w43 ⟨hI44, hA45, rfl⟩
        obtain rfl := Option.some.inj hB38
        refine ⟨rfl, x42, y30, l31, ⟨hp35, zhB38, ⟨hI44, (hA25.trans (x37.trans hA45))⟩⟩, Sub.cons rfl (Sub.cons rfl (Sub.cons rfl (Sub.cons rfl (Sub.nil _))))⟩
  · skip
    rintro x17 w18 ⟨hI19, hA20, rfl⟩
    refine cw_seq ?_
    refine cw_seq ?_
    refine cw_regF ?_
    refine s_fa rfl Tryd.underlying92 rfl Tryd.sizeOf79 rfl ?_
    refine s_ld rfl ((c_d_c.adv hI19.adv).cells.at 1 rfl) Tryd.isAgg79 rfl ?_
    refine y_rg hI19 (f_d_c_1.adv hI19.adv) rfl Tryd.underlying79 rfl ?_
    intro r391 b392 c393 es394 xs395 w396 hX397 hL398 hI399 x400
    refine Reg.nil ?_
    obtain ⟨j401, h402, h⟩ := bnd h
    refine cw_sub (L := [(53, _), (0, _), (3, _)]) (Sub.cons rfl (Sub.cons rfl (Sub.cons rfl (Sub.nil _)))) ?_
    refine cw_unitD 1 (ι := (FMap Int Report)) (fun x403 => []) (fun x403 => fun w404 => Hp w [] M [mapO Ky3 ReportE true b1 x403] w404 ∧ Adv (mm [itR r391 b392 c393 es394 xs395 none xs395, mapO Ky3 ReportE true b1 x17] M) (mm [mapO Ky3 ReportE true b1 x403] M) w396 w404 ∧ x403 = j401) ?_ ?_
    · skip
      refine cw_block ?_
      refine cw_sub (L := [(0, _), (3, _), (53, _)]) (Sub.cons rfl (Sub.cons rfl (Sub.cons rfl (Sub.nil _)))) ?_
      refine cw_loopA 0 (ι := (FMap Int Report)) _ (fun x408 => []) (fun x408 => x408) (fun x408 => fun l407 w409 => Hp w [] M [itR r391 b392 c393 es394 xs395 none l407, mapO Ky3 ReportE true b1 x408] w409 ∧ Adv (mm [itR r391 b392 c393 es394 xs395 none xs395, mapO Ky3 ReportE true b1 x17] M) (mm [itR r391 b392 c393 es394 xs395 none l407, mapO Ky3 ReportE true b1 x408] M) w396 w409) x17 xs395 (anyM_out h402 hL398) ⟨hI399, (Adv.refl _ _)⟩ (Sub.cons rfl (Sub.cons rfl (Sub.cons rfl (Sub.nil _)))) ?_
      rintro x408 l407 w409 ⟨hI410, hA411⟩ h413 hR414
      refine cw_seq ?_
      refine cw_regF ?_
      refine y_nx 0 hI410 (hX397.adv (x400.trans hA411)) rfl rfl rfl (fun hn415 => ?_) ?_
      · skip
        obtain rfl := h413 hn415
        have hI425 := hI410.erase 0
        refine s_xt rfl rfl rfl ?_
        refine Reg.nil ?_
        refine cw_seq ?_
        refine cw_condF rfl ?_
        refine cw_exit ?_
        refine exB_same ?_
        refine ⟨rfl, x408, ⟨hI425, (hA411.trans (Hp.eraseA (σ := [itR r391 b392 c393 es394 xs395 none l407, mapO Ky3 ReportE true b1 x408]) (M := M) 0)), rfl⟩, Sub.cons rfl (Sub.cons rfl (Sub.nil _))⟩
      · skip
        intro y416 l417 k418 v419 w420 hp421 hI422 x423
        obtain ⟨shB424, hB424⟩ := hR414 y416 l417 hp421
        have zhB424 := hB424
        refine s_xt rfl rfl rfl ?_
        refine Reg.nil ?_
        refine cw_seq ?_
        refine cw_condT rfl ?_
        refine cw_skip ?_
        refine cw_block ?_
        refine cw_seq ?_
        refine cw_regF ?_
        refine y_en 0 hI422 (hX397.adv (x400.trans (hA411.trans x423))) rfl rfl rfl ?_
        intro v426 hk427 hv428
        have hR429 := Vl.one1 hv428
        obtain ⟨r430', r430⟩ := hR429
        obtain rfl := one_inj r430'
        have hI431 := hI422.itOff 0 rfl
        refine s_xt rfl rfl rfl ?_
        refine s_as rfl rfl ?_
        refine Reg.nil ?_
        refine cw_regF ?_
        refine s_mv rfl rfl ?_
        refine s_mv rfl rfl ?_
        refine y_dlF 1 (a := y416.1) hI431 rfl rfl rfl (show InK IntKind.i64 y416.1 from (show InK IntKind.i64 y416.1 from hk427)) Tryd.underlying88 ?_
        intro w432 hI433 x434
        refine Reg.nil ?_
        obtain rfl := Option.some.inj hB424
        refine ⟨rfl, (fdel x408 y416.1), y416, l417, ⟨hp421, zhB424, ⟨hI433, (hA411.trans (x423.trans ((Hp.itOffA (σ := [itR r391 b392 c393 es394 xs395 (some y416) l417, mapO Ky3 ReportE true b1 x408]) (M := M) 0 rfl).trans x434)))⟩⟩, Sub.cons rfl (Sub.cons rfl (Sub.cons rfl (Sub.nil _)))⟩
    · skip
      rintro x403 w404 ⟨hI405, hA406, rfl⟩
      refine cw_seq ?_
      refine cw_regF ?_
      refine s_as rfl rfl ?_
      refine Reg.nil ?_
      refine cw_seq ?_
      refine cw_seq ?_
      refine cw_regF ?_
      refine s_mv rfl rfl ?_
      have hf435 := hI405.freezeM 0 rfl
      have hI436 := hI405.erase 0
      refine y_rg hI436 hf435 rfl Tryd.underlying88 rfl ?_
      intro r437 b438 c439 es440 xs441 w442 hX443 hL444 hI445 x446
      refine Reg.nil ?_
      obtain ⟨B449, hB449, kB449⟩ := anyK_out h hL444
      refine cw_sub (L := [(9, _), (61, _), (0, _)]) (Sub.cons rfl (Sub.cons rfl (Sub.cons rfl (Sub.nil _)))) ?_
      refine cw_unitD 2 (ι := (List Report) × Value) (fun ⟨x450, v451⟩ => [(9, v451)]) (fun ⟨x450, v451⟩ => fun w452 => Hp w [] M [ownR [] ReportE 61 v451 x450] w452 ∧ Adv (mm [itR r437 b438 c439 es440 xs441 none xs441] M) (mm [ownR [] ReportE 61 v451 x450] M) w442 w452 ∧ ∃ d_ : List _, List.Perm d_ xs441 ∧ List.foldlM B449 [] d_ = some x450) ?_ ?_
      · skip
        refine cw_block ?_
        refine cw_sub (L := [(9, _), (0, _), (61, _)]) (Sub.cons rfl (Sub.cons rfl (Sub.cons rfl (Sub.nil _)))) ?_
        have hI461 := hI445.addNil ReportE 61
        refine cw_loopK 1 (ι := (List Report) × Value) B449 (fun ⟨x456, v457⟩ => [(9, v457)]) (fun ⟨x456, v457⟩ => x456) (fun ⟨x456, v457⟩ => fun l455 w458 => Hp w [] M [ownR [] ReportE 61 v457 x456, itR r437 b438 c439 es440 xs441 none l455] w458 ∧ Adv (mm [itR r437 b438 c439 es440 xs441 none xs441] M) (mm [ownR [] ReportE 61 v457 x456, itR r437 b438 c439 es440 xs441 none l455] M) w442 w458) (([] : List Report), (Value.slice none 0 0)) xs441 (fun l_ hl_ => (kB449 l_ hl_).imp fun _ h_ => h_.1) ⟨hI461, (Hp.addNilA (σ := [itR r437 b438 c439 es440 xs441 none xs441]) ReportE 61)⟩ (Sub.cons rfl (Sub.cons rfl (Sub.cons rfl (Sub.nil _)))) ?_
        rintro ⟨x456, v457⟩ l455 w458 ⟨hI459, hA460⟩ h463 hR464
        refine cw_seq ?_
        refine cw_regF ?_
        refine y_nx 1 hI459 (hX443.adv (x446.trans hA460)) rfl rfl rfl (fun hn465 => ?_) ?_
        · skip
          have hend_ := h463 hn465
          have hI475 := hI459.erase 1
          refine s_xt rfl rfl rfl ?_
          refine Reg.nil ?_
          refine cw_seq ?_
          refine cw_condF rfl ?_
          refine cw_exit ?_
          refine exB_same ?_
          refine ⟨rfl, (x456, v457), ⟨hI475, (hA460.trans (Hp.eraseA (σ := [ownR [] ReportE 61 v457 x456, itR r437 b438 c439 es440 xs441 none l455]) (M := M) 1)), hend_⟩, Sub.cons rfl (Sub.cons rfl (Sub.nil _))⟩
        · skip
          intro y466 l467 k468 v469 w470 hp471 hI472 x473
          obtain ⟨shB474, hB474⟩ := hR464 y466 l467 hp471
          have zhB474 := hB474
          rw [hB449] at hB474
          refine s_xt rfl rfl rfl ?_
          refine Reg.nil ?_
          refine cw_seq ?_
          refine cw_condT rfl ?_
          refine cw_skip ?_
          refine cw_block ?_
          refine cw_seq ?_
          refine cw_regF ?_
          refine y_en 1 hI472 (hX443.adv (x446.trans (hA460.trans x473))) rfl rfl rfl ?_
          intro v476 hk477 hv478
          obtain ⟨cs479, hR480, rfl⟩ := Vl.agg hv478
          obtain ⟨rfl, r481, r482, r483, r484, r485, r486, r487, r488⟩ := ReportE_R.1 hR480
          have hI489 := hI472.itOff 1 rfl
          refine s_xt rfl rfl rfl ?_
          refine y_al hI489 Tryd.zeroValue61 rfl rfl ?_
          intro b490 w491 hI492 x493
          refine y_st 0 hI492 rfl rfl rfl rfl Tryd.sizeOf61 rfl rfl (one1 rfl (one1 rfl (one1 rfl (one1 rfl (one1 rfl (one1 rfl (one1 rfl (one1 rfl one0)))))))) ?_
          intro w494 hI495 x496
          have hC498 := hI495.freezeRow 0 rfl
          have hI497 := hI495.erase 0
          refine Reg.nil ?_
          refine cw_regF ?_
          refine s_mv rfl rfl ?_
          refine s_lda rfl hC498.cells Tryd.isAgg61 rfl Tryd.sizeOf61 rfl ?_
          refine y_bs (E := ReportE) (xs := [(Report.mk y466.2.id y466.2.source y466.2.account y466.2.made y466.2.about y466.2.kind y466.2.cents y466.2.of_)]) sl22 hI497 rfl rfl (Cls.cons rfl Cls.nil) (Chs.cons ((ReportE_R (x := (Report.mk y466.2.id y466.2.source y466.2.account y466.2.made y466.2.about y466.2.kind y466.2.cents y466.2.of_))).2 ⟨rfl, r481, r482, r483, r484, r485, r486, r487, r488⟩) Chs.nil) rfl rfl ?_
          intro v499 w500 hI501 x502
          have hf503 := hI501.freeze 0 rfl
          have hI504 := hI501.erase 0
          obtain ⟨l505, hl505, hB474⟩ := bnd hB474
          obtain ⟨hbl505, el505⟩ := appo_out hl505
          refine y_app 0 sl22 hI504 rfl rfl rfl hf503 hbl505 rfl ?_
          rw [← el505]
          intro v506 w507 hI508 x509
          refine s_as rfl rfl ?_
          refine Reg.nil ?_
          obtain rfl := Option.some.inj hB474
          refine ⟨rfl, (l505, v506), y466, l467, ⟨hp471, zhB474, ⟨hI508, (hA460.trans (x473.trans ((Hp.itOffA (σ := [ownR [] ReportE 61 v457 x456, itR r437 b438 c439 es440 xs441 (some y466) l467]) (M := M) 1 rfl).trans (x493.trans (x496.trans ((Hp.eraseA (σ := [rowR 61 b490 [Value.int IntKind.i64 (y466.2.id), Value.int IntKind.i64 (y466.2.source), Value.int IntKind.i64 (y466.2.account), Value.int IntKind.i64 (y466.2.made), Value.int IntKind.i64 (y466.2.about), Value.int IntKind.u8 (y466.2.kind), Value.int IntKind.i64 (y466.2.cents), Value.int IntKind.i64 (y466.2.of_)], ownR [] ReportE 61 v457 x456, itR r437 b438 c439 es440 xs441 none l467]) 0).trans (x502.trans ((Hp.eraseA (σ := [ownR [] ReportE 61 v499 ([(Report.mk y466.2.id y466.2.source y466.2.account y466.2.made y466.2.about y466.2.kind y466.2.cents y466.2.of_)] : List Report), ownR [] ReportE 61 v457 x456, itR r437 b438 c439 es440 xs441 none l467]) 0).trans x509))))))))⟩⟩, Sub.cons rfl (Sub.cons rfl (Sub.cons rfl (Sub.nil _)))⟩
      · skip
        rintro ⟨x450, v451⟩ w452 ⟨hI453, hA454, ⟨d_, hdp_, hdf_⟩⟩
        obtain ⟨s9_, hs9_, h⟩ := kB449 d_ hdp_
        obtain rfl := Option.some.inj (hdf_.symm.trans hs9_)
        refine cw_seq ?_
        refine cw_regF ?_
        refine s_mv rfl rfl ?_
        refine y_bs (E := fnE) (xs := [75, 76]) sl145 hI453 rfl rfl (Cls.cons rfl (Cls.cons rfl Cls.nil)) (Chs.cons rfl (Chs.cons rfl Chs.nil)) rfl rfl ?_
        intro v510 w511 hI512 x513
        have hf514 := hI512.freeze 0 rfl
        have hI515 := hI512.erase 0
        obtain ⟨z516, hz517, h⟩ := bnd h
        refine s_call rfl Tryd.call74 rfl ?_
        refine (C_account_ordered_74 (hI515.erase 0).mlt (hI515.apart 0 rfl) (hI515.lendOwn 0 rfl) (hf514.adv (Hp.lendA (σ := [ownR [] ReportE 61 v451 x450]) (M := M) 0 rfl)) hz517).mono ?_
        rintro _ w518 ⟨v520, rfl, hf521⟩
        refine ⟨_, rfl, ?_⟩
        have hI522 := hI515.took 0 rfl hf521
        refine s_lenO rfl (hI522.ownAt 0 rfl) Tryd.underlying22 rfl ?_
        refine s_mv rfl rfl ?_
        refine Reg.nil ?_
        obtain rfl := Option.some.inj h
        have hge_ : ∀ b ∈ ob v520, w.heap.size ≤ b := fun b hb => ((hI522.own _ (List.mem_of_getElem? (i := 0) rfl)).2 b hb).resolve_left (fun h => by cases h)
        have hf523 := hI522.freeze 0 rfl
        have hI524 := hI522.erase 0
        refine cw_block ?_
        have hgB : ∀ g, gOf w518 b2 = some g → g < w.heap.size := fun g hg => (KB.of_ext hI524.kp hb2).gof g hg |>.elim (hg2 g) fun h => by
          have h5 : gOf w b2 = some g := by
            unfold gOf at hg ⊢
            rw [World.cell?_of_block (a := ⟨b2, 0, none⟩) (w := w) (hI524.kp.block b2 hb2 (by simp))] at hg
            exact hg
          exact hg2 g h5
        have hlen_ := RdS.inK hf523
        refine cw_sub (L := [(74, _), (72, _), (73, _), (0, _)]) (Sub.cons rfl (Sub.cons rfl (Sub.cons rfl (Sub.cons rfl (Sub.nil _))))) ?_
        refine cw_loopD 1 (ι := Nat) (fun i => [(74, .int .i64 i)]) (fun i W_ => i ≤ z516.length ∧ J (z516.take i) W_ ∧ KB b2 w518 W_) (fun i => z516.length - i) 0 ⟨Nat.zero_le _, hJ _ _ _ none h0 (Ext.grownBy hI524.kp) (fun r hr => by cases hr), KB.refl _ _⟩ (Sub.cons rfl (Sub.cons rfl (Sub.cons rfl (Sub.cons rfl (Sub.nil _))))) (fun i W_ hW_ => ?_)
        obtain ⟨hi, hJi, hKi⟩ := hW_
        refine cw_seq ?_
        refine cw_regF ?_
        refine s_lss rfl rfl rfl ?_
        refine Reg.nil ?_
        refine cw_seq ?_
        refine cw_cond rfl (fun hc => ?_) (fun hc => ?_)
        · have hlt : i < z516.length := by have := of_decide_eq_true hc; omega
          refine cw_skip ?_
          refine cw_seq ?_
          refine cw_block ?_
          obtain ⟨b, o, c, cs, hv, hbM, hbl, hR, hC⟩ := hf523.at i hlt
          obtain ⟨rfl, r0_, r1_, r2_, r3_, r4_, r5_, r6_, r7_⟩ := ReportE_R.1 hR
          obtain ⟨_, _, hs_, hle_, _⟩ := (hf523).shape
          rw [hv] at hs_
          cases hs_
          obtain ⟨c9, rfl⟩ : ∃ c9, c = c9 + 1 := ⟨c - 1, by omega⟩
          have hbw : w.heap.size ≤ b := hge_ b (by rw [hv]; simp [ob])
          have hb2' : b ≠ b2 := by omega
          have hbg : gOf w518 b2 ≠ some b := fun e => by have := hgB b e; omega
          have hCi : Cells W_ b (o + i * 8) (encR z516[i]) := fun j u hj => hKi.cell b _ u hb2' hbg (hC j u hj)
          refine cw_seq ?_
          refine cw_regF ?_
          refine Reg.val (.pointer (some ⟨b, o + i * 8, none⟩)) rfl rfl rfl (fun a ha w9 _ => ?_) ?_
          · have hx : ev [(73, Value.int IntKind.i64 (z516.length : Int)), (0, Value.func (.func 0) #[] #[])] (.tmp 73) = some (.int .i64 (z516.length : Int)) := rfl
            have h1 := ha.eval (x := .tmp 72) (v := v520) rfl
            have h2 := ha.eval (x := .tmp 74) (v := .int .i64 (i : Int)) rfl
            rw [hv] at h1
            have h3 : (i : Int) < (z516.length : Int) := by omega
            simp [execOp, h1, h2, Instr.indexAt, asIntOf, run_underlying Tryd.underlying22, h3, Tryd.sizeOf61, add_none]
            intro h9_; exact absurd h9_ (by omega)
          refine s_lda rfl hCi Tryd.isAgg61 rfl Tryd.sizeOf61 rfl ?_
          refine s_al Tryd.zeroValue61 rfl rfl (fun bt w3 hbt ex3 hlt3 hRt => ?_)
          have hRt' : Row 61 w3 bt [.int .i64 0, .int .i64 0, .int .i64 0, .int .i64 0, .int .i64 0, .int .u8 0, .int .i64 0, .int .i64 0] := hRt
          refine s_st rfl rfl rfl hRt' Tryd.sizeOf61 rfl rfl (one1 rfl (one1 rfl (one1 rfl (one1 rfl (one1 rfl (one1 rfl (one1 rfl (one1 rfl one0)))))))) (fun w4 hr4 hk4 => ?_)
          have e24 : Ext W_ w4 := ex3.tail hk4 fun c hc => by
            have : c = bt := by simpa using hc
            omega
          refine Reg.nil ?_
          have hr4' : Row 61 w4 bt (encR z516[i]) := hr4
          have hJ4 : J (z516.take i) w4 := hJ _ _ _ none hJi (Ext.grownBy e24) (fun r hr => by cases hr)
          have hY4 := hY (z516.take i) z516[i] w4 hJ4 (by rw [List.length_take]; omega) (by rw [List.length_take, Nat.min_eq_left (by omega)]; exact List.getElem?_eq_getElem hlt)
          have htk : z516.take (i + 1) = z516.take i ++ [z516[i]] := by rw [List.take_add_one, List.getElem?_eq_getElem hlt]; rfl
          have hK4 : KB b2 w518 w4 := hKi.trans (KB.of_ext e24 (Nat.lt_of_lt_of_le hb2 (Nat.le_trans hI524.kp.size hKi.size)))
          refine cw_seq ?_
          refine cw_regI n ?_
          refine Rgi.val (.func (.yield lp) #[] #[]) rfl rfl rfl rfl (fun a ha => by simp [execOp, ha.eval (x := .tmp 0) (v := .func (.yield lp) #[] #[]) rfl]) ?_
          refine Rgi.val (.agg (encR z516[i]).toArray) rfl rfl rfl rfl (fun a ha => by
            have := run_loadCells_list (P := Tryd.prog) w4 ⟨bt, 0, none⟩ (encR z516[i]) (fun j v hj => by rw [add_none]; exact hr4'.rd.cells j v hj)
            have h9 := ha.eval (x := .tmp 13) (v := .pointer (some ⟨bt, 0, none⟩)) rfl
            simp only [encR] at this ⊢
            simp at this
            simp [execOp, h9, Instr.loadAt, Instr.sureAddr, loadVar, Tryd.isAgg61, Tryd.sizeOf61, this]) ?_
          refine Rgi.yield rfl rfl rfl hY4 ?_
          rintro e w5 (⟨rfl, hJ5, hK5⟩ | ⟨rfl, hJ5⟩)
          · refine ⟨_, rfl, ?_⟩
            refine Rgi.val (.bool false) rfl rfl rfl rfl (fun a ha => by
              have h9 := ha.eval (x := .tmp 80) (v := .bool true) rfl
              simp [execOp, h9, Op.unary]) ?_
            refine Rgi.nil ?_
            refine cw_condF rfl ?_
            refine cw_skip ?_
            refine cw_regF ?_
            refine p_add (n := ((i + 1 : Nat) : Int)) rfl rfl rfl ⟨by omega, by rw [InK.i64] at hlen_ ⊢; omega⟩ ?_
            refine s_mv rfl rfl ?_
            refine Reg.nil ?_
            exact ⟨rfl, i + 1, ⟨by omega, by rw [htk]; exact hJ5, hK4.trans hK5⟩, Sub.cons rfl (Sub.cons rfl (Sub.cons rfl (Sub.cons rfl (Sub.nil _)))), by omega⟩
          · refine ⟨_, rfl, ?_⟩
            refine Rgi.val (.bool true) rfl rfl rfl rfl (fun a ha => by
              have h9 := ha.eval (x := .tmp 80) (v := .bool false) rfl
              simp [execOp, h9, Op.unary]) ?_
            refine Rgi.nil ?_
            refine cw_condT rfl ?_
            refine cw_ret ?_
            refine fin0 Tryd.results73 ?_
            exact ⟨⟨_, rfl⟩, .inr ⟨_, List.take_prefix (i + 1) _, by rw [htk]; exact hJ5⟩⟩
        · have hge : ¬ (i : Int) < (z516.length : Int) := of_decide_eq_false hc
          have hi' : i = z516.length := by omega
          subst hi'
          refine cw_exit ?_
          refine exB_same ?_
          refine fin0 Tryd.results73 ?_
          exact ⟨⟨_, rfl⟩, .inl ⟨_, rfl, by rwa [List.take_length] at hJi⟩⟩
end Go.Proofs.YtepjkmoipjeghaaDoor
namespace Go.Sx
open Go Go.RowKit
variable [Trk]
/-- How something lies does not hang on the world. -/
def Flat {α : Type} (E : Enc α) : Prop := ∀ {M M' : List Nat} {w w' : World} {cs : List Value} {x : α}, E.R M w cs x → E.R M' w' cs x
theorem Chunks.flat {α : Type} {E : Enc α} (hE : Flat E) {M M' : List Nat} {w w' : World} : ∀ {cs : List Value} {xs : List α}, Chunks E M w cs xs → Chunks E M' w' cs xs
  | _, [], h => h
  | _, _ :: _, ⟨c, rest, h, hR, hr⟩ => ⟨c, rest, h, hE hR, Chunks.flat hE hr⟩
theorem Own.flat {α : Type} {E : Enc α} (hE : Flat E) {e : TypeId} {Bb : Nat} {M M' : List Nat} {w w' : World} {v : Value} {xs : List α} (h : Own E e Bb M w v xs) (hb : ∀ b ∈ ob v, w'.heap[b]? = w.heap[b]?) : Own E e Bb M' w' v xs := by
  rcases h with h | ⟨g, cap, cur, rfl, h1, h2, h3, h4, h5, h6⟩
  · exact .inl h
  · exact .inr ⟨g, cap, cur, rfl, h1, by rw [hb g (by simp [ob])]; exact h2, h3, h4, h5, Chunks.flat hE h6⟩
theorem Own.isC {α : Type} {E : Enc α} {e : TypeId} {Bb : Nat} {M : List Nat} {w : World} {v : Value} {xs : List α} (h : Own E e Bb M w v xs) : ∀ b ∈ ob v, ∃ o, w.heap[b]? = some o ∧ o.isCells = true := by
  rcases h with ⟨a, rfl, _⟩ | ⟨g, cap, cur, rfl, h1, h2, h3, h4, h5, h6⟩
  · intro b hb; cases a <;> cases hb
  · intro b hb
    have : b = g := by simpa [ob] using hb
    subst this; exact ⟨_, h2, rfl⟩
section
variable {α : Type} {E : Enc α} {e t : TypeId} {M : List Nat} {w0 W W' : World} {b2 : Nat} {v v' : Value} {xs xs' : List α}
/-- The slice that grows, and the variable that holds it. -/
abbrev grS (E : Enc α) (e t : TypeId) (b2 : Nat) (v : Value) (xs : List α) : List Res := [ownR [] E e v xs, rowR t b2 [v]]
theorem Hp.turnG (hE : Flat E) (ht : ¬ Trk.t) {row : Option Nat} (h : Hp w0 [] M (grS E e t b2 v xs) W) (hg : W.grownBy W' row) (hr : ∀ r, row = some r → w0.heap.size ≤ r ∧ ∃ o : Obj, W.heap[r]? = some o ∧ o.isCells = false) : Hp w0 [] M (grS E e t b2 v xs) W' := by
  have hk : Kp [] w0 W' := ⟨hg.os.trans h.kp.os, hg.tape.trans h.kp.tape, hg.output.trans h.kp.output, Nat.le_trans h.kp.size hg.size, fun b hb hn => (hg.block b (Nat.lt_of_lt_of_le hb h.kp.size) fun e => by
    have := (hr b e.symm).1
    omega).trans (h.kp.block b hb hn), fun h => absurd h ht⟩
  have ho := h.ownAt 0 rfl
  have hrw := h.row 1 rfl
  have hcell : ∀ (b : Nat) (o : Obj), W.heap[b]? = some o → o.isCells = true → W'.heap[b]? = W.heap[b]? := fun b o hb hc => hg.block b (heap_lt hb) fun e => by
    obtain ⟨_, o', h1, h2⟩ := hr b e.symm
    rw [hb] at h1; cases h1
    rw [hc] at h2; cases h2
  refine ⟨hk, fun b hb => Nat.lt_of_lt_of_le (h.mlt b hb) hg.size, ⟨hk.mono fun x hx => (by cases hx), h.adv.new⟩, h.base, h.sepM, h.own, h.dis, fun r hr' => ?_⟩
  rcases List.mem_cons.1 hr' with rfl | hr'
  · exact Own.flat hE ho fun b hb => by
      obtain ⟨o, h1, h2⟩ := ho.isC b hb
      exact hcell b o h1 h2
  · have : r = rowR t b2 [v] := by simpa using hr'
    subst this
    exact (hcell b2 _ hrw rfl).trans hrw
theorem Hp.gof (h : Hp w0 [] M (grS E e t b2 v xs) W) : gOf W b2 = (ob v).head? := by
  have := (h.row 1 rfl).rd.cells.at 0 rfl
  unfold gOf
  rw [this]
theorem ob_head {v : Value} {b : Nat} : (ob v).head? = some b ↔ b ∈ ob v := by
  unfold ob
  split <;> simp [eq_comm]
theorem Hp.kb (h : Hp w0 [] M (grS E e t b2 v xs) W) (h' : Hp w0 [] M (grS E e t b2 v' xs') W') (hA : Adv (mm (grS E e t b2 v xs) M) (mm (grS E e t b2 v' xs') M) W W') : KB b2 W W' ∧ KeepsFrom w0.heap.size W W' := by
  have ho := h.ownAt 0 rfl
  have hmem : ∀ b, b ∈ mm (grS E e t b2 v xs) M → b ∈ ob v ∨ b = b2 ∨ b ∈ M := fun b hb => by
    simp only [mm, ownR, rowR, List.mem_append, List.mem_cons, List.not_mem_nil, or_false] at hb
    rcases hb with h1 | h1 | h1
    · exact .inl h1
    · exact .inr (.inl h1)
    · exact .inr (.inr h1)
  have hM : ∀ b ∈ M, W'.heap[b]? = W.heap[b]? := fun b hb => (h'.kp.block b (h.base b hb) (by simp)).trans (h.kp.block b (h.base b hb) (by simp)).symm
  refine ⟨⟨hA.kp.size, fun b j u hb hg hu => ?_, fun g hg => ?_⟩, ⟨hA.kp.size, fun k o hk ho' hc => ?_⟩⟩
  · have hlt : b < W.heap.size := cell_lt hu
    have hsame : W'.heap[b]? = W.heap[b]? := by
      by_cases hm : b ∈ mm (grS E e t b2 v xs) M
      · rcases hmem b hm with h1 | h1 | h1
        · exact absurd (by rw [h.gof]; exact ob_head.2 h1) hg
        · exact absurd h1 hb
        · exact hM b h1
      · exact hA.kp.block b hlt hm
    rw [World.cell?_of_block (a := ⟨b, j, none⟩) (w := W) hsame]; exact hu
  · rw [h'.gof] at hg
    have hgo := ob_head.1 hg
    rcases hA.new g (mem_mm.2 (.inl ⟨_, List.mem_cons_self .., hgo⟩)) with h1 | h1
    · rcases hmem g h1 with h2 | h2 | h2
      · exact .inl (by rw [h.gof]; exact ob_head.2 h2)
      · exact absurd (by rw [h2]; simp [rowR]) (h'.dis 0 1 _ _ rfl rfl (by omega) g hgo)
      · exact absurd h2 (h'.sepM _ (List.mem_cons_self ..) g hgo)
    · exact .inr h1
  · refine (hA.kp.block k (heap_lt ho') fun hm => ?_).trans ho'
    rcases hmem k hm with h1 | h1 | h1
    · obtain ⟨o2, h2, h3⟩ := ho.isC k h1
      rw [ho'] at h2; cases h2
      rw [hc] at h3; cases h3
    · subst h1
      have h2 : W.heap[k]? = _ := h.row 1 rfl
      rw [ho'] at h2; cases h2; cases hc
    · have := h.base k h1
      omega
end
/-- A range over a function that yields. -/
theorem cw_rangeV {P : Program} {N : Nat} {ds : List Deferred} {L : Env} {w : World} {A B : Out} {X : Nat → Out} {Z : List PanicEntry → Out} {g : Operand} {p : Nat} {assign body : Code} {gf : Nat} {lb : Array Value} {α : Type} {val : α → Value} {xs : List α} {K : World → World → Prop}
    (hg : ev L g = some (.func (.func gf) #[] lb)) (eg : ∀ args w, (callFunc gf args).run P w = .ok (.enter gf args) w) (hp : Nat.blt p N = true)
    (hseq : SeqStopsK Fence.wide 2 P gf lb (fun x : α => #[val x]) K (fun ys => ys = xs) (fun pre => pre <+: xs) xs.length w)
    (hKt : ∀ {A B C : World}, K A B → K B C → K A C) (hKb : ∀ (W : World) (l : Nat) (o o' : Obj), w.heap.size ≤ l → W.heap[l]? = some o → o.isCells = false → o.isWalk = false → K W (W.putObj l o'))
    (I Ix : List α → World → Prop) (hI : OwnFrom w.heap.size I) (hIx : OwnFrom w.heap.size Ix) (h0 : I [] w)
    (AL : α → Env → World → Prop) (hAL : ∀ x L', OwnFrom w.heap.size fun (_ : Unit) W => AL x L' W)
    (hassign : ∀ (l : Nat) (pre : List α) (x : α) (W : World), I pre W → CI l 1 P N assign [] ((p, val x) :: L) W (fun ds' L' W' => ds' = [] ∧ KeepsFrom w.heap.size W W' ∧ K W W' ∧ I pre W' ∧ AL x L' W') (fun _ _ _ => False) NoX (fun _ _ _ _ => False))
    (hbody : ∀ (l : Nat) (pre : List α) (x : α) (L' : Env) (W : World), I pre W → AL x L' W → pre.length < xs.length →
      CI l 1 P N body [] L' W (fun _ _ W' => KeepsFrom w.heap.size W W' ∧ K W W' ∧ I (pre ++ [x]) W') (fun _ _ W' => KeepsFrom w.heap.size W W' ∧ Ix (pre ++ [x]) W') NoX (fun _ _ _ _ => False))
    (hdone : ∀ (D : Nat) (W : World), w.heap.size ≤ D → I xs W → W.heap[D]? = some (.deferred (some [])) → A ({ target := .collected D, args := #[] } :: ds) L W)
    (hstop : ∀ (D : Nat) (pre : List α) (W : World), w.heap.size ≤ D → pre <+: xs → Ix pre W → W.heap[D]? = some (.deferred (some [])) → B ({ target := .collected D, args := #[] } :: ds) L W) :
    CW P N (.rangeFunc g #[p] assign body) ds L w A B X Z := by
  intro a ha
  refine (wpIn_wide (n := 3)).1 ?_
  have hN : p < N := by simpa [Nat.blt_eq] using hp
  refine wpIn_rangeFunc_ownH (F := Fence.wide) (n := 3) rfl (by omega) (ha.eval hg) trivial eg hseq (fun h k => hKt h k) hKb (Below.refl _ _) (fun x => rfl) I (fun c pre W => c = .ret ∧ Ix pre W) hI
    (fun c s W W' row hs hgr hr => ⟨hs.1, hIx s W W' row hs.2 hgr hr⟩) h0 (fun x a' W => ∃ L', Knows N [] L' a' ∧ AL x L' W) (fun x a' s W W' row hs hgr hr => ?_) ?_ ?_ ?_ ?_
  · obtain ⟨L', h1, h2⟩ := hs
    exact ⟨L', h1, hAL x L' () W W' row h2 hgr hr⟩
  · intro l pre x W K' hi hK
    have hk : Knows N [] ((p, val x) :: L) { tmps := a.tmps.setIfInBounds p (val x), defers := [] } := by
      have := (show Knows N [] L { a with defers := [] } from ⟨ha.size, rfl, ha.val⟩).put hp (val x)
      exact this
    have hz : (Array.foldl (fun (t : Array Value) (x : Tmp × Value) => match x with | (p, v) => t.setIfInBounds p v) a.tmps (#[p].zip #[val x])) = a.tmps.setIfInBounds p (val x) := by simp
    rw [hz]
    refine wpIn_mono (hassign l pre x W hi _ hk) fun e a' W' hq => ?_
    cases e with
    | normal => obtain ⟨ds', L', h1, rfl, h3, h4, h5, h6⟩ := hq; exact hK a' W' h3 h4 h5 ⟨L', h1, h6⟩
    | ret => obtain ⟨_, _, _, h⟩ := hq; exact h.elim
    | exit i => obtain ⟨_, _, _, h⟩ := hq; exact h.elim
    | panic c => obtain ⟨_, _, _, h⟩ := hq; exact h.elim
    | goto l => exact hq.elim
    | outgrown => exact hq.elim
  · intro l pre x a' W _ _ hi hA hl
    obtain ⟨L', h1, h2⟩ := hA
    refine wpIn_mono (hbody l pre x L' W hi h2 hl a' h1) fun e a' W' hq => ?_
    cases e with
    | normal => obtain ⟨ds', L', h1, h3⟩ := hq; exact h3
    | ret => obtain ⟨ds', L', h1, h3, h4⟩ := hq; exact ⟨h3, rfl, h4⟩
    | exit i => obtain ⟨_, _, _, h⟩ := hq; exact h.elim
    | panic c => obtain ⟨_, _, _, h⟩ := hq; exact h.elim
    | goto l => exact hq.elim
    | outgrown => exact hq.elim
  · intro D ys W hD hy hi hw
    subst hy
    exact ⟨_, L, ⟨ha.size, by rw [ha.defers], ha.val⟩, hdone D W hD hi hw⟩
  · intro D c pre W hD hy hi hw
    obtain ⟨rfl, hi⟩ := hi
    exact wpIn_ret ⟨_, L, ⟨ha.size, by rw [ha.defers], ha.val⟩, hstop D pre W hD hy hi hw⟩
end Go.Sx
namespace Go.Proofs.YtepjkmoipjeghaaDoor
open Go Go.Sx Go.RowKit
/-- From here on draws are not counted on. -/
instance trkF : Trk := ⟨False⟩
/-- The iterator of a desk. -/
def ItF (M : List Nat) (w : World) (v : Value) (d : Desk) : Prop := ∃ b v0 v1 v2, v = .func (.func 73) #[] [Value.pointer (some ⟨b, 0, none⟩)].toArray ∧ RdC M w b 0 [v0, v1, v2] ∧ RdF Ky3 ReportE true M w v0 d.store.reports ∧ RdF Ky3 (intE .i64) false M w v1 d.gone ∧ RdF Ky3 (intE .i64) false M w v2 d.fixed
theorem ItF.adv {M M' : List Nat} {w w' : World} {v : Value} {d : Desk} (h : ItF M w v d) (ha : Adv M M' w w') : ItF M' w' v d := by
  obtain ⟨b, v0, v1, v2, h0, h1, h2, h3, h4⟩ := h
  exact ⟨b, v0, v1, v2, h0, h1.adv ha, h2.adv ha, h3.adv ha, h4.adv ha⟩
/-- Reports whose numbers fit. -/
abbrev RepI := { r : Report // InR r }
theorem val_inj {a b : List RepI} (h : a.map Subtype.val = b.map Subtype.val) : a = b := (List.map_inj_right (fun _ _ h => Subtype.ext h)).1 h
theorem yield_mono {F : Fence} {m : Nat} {P : Program} {l : Nat} {args : Array Value} {W : World} {R R' : Ending → World → Prop} (h : YieldAt F m P l args W R) (hr : ∀ e w, R e w → R' e w) : YieldAt F m P l args W R' := by
  obtain ⟨fn, tmps, assign, body, h1, h2⟩ := h
  exact ⟨fn, tmps, assign, body, h1, h2.mono hr⟩
theorem facts_stops (n : Nat) {M : List Nat} {w : World} (hM : MLt M w) {v : Value} {d : Desk} (hf : ItF M w v d) {l : List RepI} (h : P.account_facts d = some (l.map Subtype.val)) {b2 : Nat} (hb2 : b2 < w.heap.size) (hg2 : ∀ g, gOf w b2 = some g → g < w.heap.size) :
    ∃ lb, v = .func (.func 73) #[] lb ∧ SeqStopsK Fence.wide n Tryd.prog 73 lb (fun r : RepI => #[.agg (encR r.1).toArray]) (KB b2) (fun ys => ys = l) (fun pre => pre <+: l) l.length w := by
  obtain ⟨b, v0, v1, v2, rfl, hc, f0, f1, f2⟩ := hf
  refine ⟨_, rfl, fun lp J Jx W hW hJ _ hY h0 => ?_⟩
  have hE : Ext w W := Ext.of_below0 hW (fun h => h)
  have hA : Adv M M w W := Adv.of_ext hE
  have hg2' : ∀ g, gOf W b2 = some g → g < W.heap.size := fun g hg => by
    rcases (KB.of_ext hE hb2).gof g hg with h1 | h1
    · exact Nat.lt_of_lt_of_le (hg2 g h1) hE.size
    · have h5 : gOf w b2 = some g := by
        unfold gOf at hg ⊢
        rw [World.cell?_of_block (a := ⟨b2, 0, none⟩) (w := w) (hE.block b2 hb2 (by simp))] at hg
        exact hg
      exact Nat.lt_of_lt_of_le (hg2 g h5) hE.size
  refine callsIn_wide.2 ((C_account_facts (hM.ext hE) (f0.adv hA) (f1.adv hA) (f2.adv hA) (hc.adv hA) h (Nat.lt_of_lt_of_le hb2 hE.size) hg2' (n := n) (lp := lp)
    (J := fun pre W => ∃ pre' : List RepI, pre'.map Subtype.val = pre ∧ J pre' W) (Jx := fun pre W => ∃ pre' : List RepI, pre'.map Subtype.val = pre ∧ Jx pre' W) ?_ ?_ ⟨[], rfl, h0⟩).mono ?_)
  · rintro s W1 W2 row ⟨pre', h1, h2⟩ hg hr
    exact ⟨pre', h1, hJ _ _ _ row h2 hg hr⟩
  · rintro pre x W1 ⟨pre', rfl, h2⟩ hlt hx
    rw [List.length_map] at hlt
    rw [List.length_map] at hx
    rw [List.getElem?_map] at hx
    obtain ⟨x', hx', rfl⟩ := Option.map_eq_some_iff.1 hx
    refine yield_mono (hY pre' x' W1 h2 (by rw [List.length_map] at hlt; exact hlt)) ?_
    rintro e W' (⟨rfl, h3, h4⟩ | ⟨rfl, h3⟩)
    · exact .inl ⟨rfl, ⟨_, by simp, h3⟩, h4⟩
    · exact .inr ⟨rfl, _, by simp, h3⟩
  · rintro e W' ⟨hv, ⟨xs, rfl, pre', h1, h2⟩ | ⟨pre, hp, pre', rfl, h2⟩⟩
    · exact ⟨hv, .inl ⟨_, val_inj h1, h2⟩⟩
    · refine ⟨hv, .inr ⟨pre', ?_, h2⟩⟩
      obtain ⟨t, ht⟩ := hp
      refine ⟨l.drop pre'.length, val_inj ?_⟩
      rw [List.map_append, List.map_drop, ← ht]
      simp
theorem flatR : Flat ReportE := fun h => ReportE_R.2 (ReportE_R.1 h)
/-- What a round finds: the report in a variable of the round's. -/
def AlR (M : List Nat) (b2 : Nat) (x : RepI) (L : Sx.Env) (W : World) : Prop := ∃ b5 u, Sub [(2, .pointer (some ⟨b2, 0, none⟩)), (5, .pointer (some ⟨b5, 0, none⟩))] L ∧ Row 61 W b5 (encR x.1) ∧ Row 22 W b2 [u] ∧ b5 ∉ ob u ∧ b5 ≠ b2 ∧ b5 ∉ M
theorem C_slices_AppendSeq {M : List Nat} {w : World} (hM : MLt M w) {v : Value} {d : Desk} (hf : ItF M w v d) {l : List RepI} (h : P.account_facts d = some (l.map Subtype.val)) (hl : l.length * 64 ≤ 140737488355328) :
    Calls Tryd.prog 69 (List.toArray [.slice none 0 0, v]) w fun e w' => ∃ v' : Value, e = .returned v' ∧ (Sx.Own ReportE 61 0 M w' v' (l.map Subtype.val) ∧ ∀ b ∈ ob v', w.heap.size ≤ b) ∧ Ext w w' := by
  refine calls_cwM Tryd.func69 rfl Tryd.ntmps69 rfl ?_
  have hI := Hp.start (Mu := []) hM
  refine cw_seq ?_
  refine cw_regF ?_
  refine y_box hI rfl rfl rfl ?_
  intro b2 w2 hI2 x2
  refine s_as rfl rfl ?_
  refine Reg.nil ?_
  refine cw_seq ?_
  refine cw_seq ?_
  refine cw_regF ?_
  refine s_mv rfl rfl ?_
  refine Reg.nil ?_
  have hI3 : Hp w [] M (grS ReportE 61 22 b2 (.slice none 0 0) []) w2 := hI2.addNil ReportE 61
  have hb2 : b2 < w2.heap.size := hI3.mlt b2 (by simp [mm, rowR])
  have hgn : gOf w2 b2 = none := by rw [hI3.gof]; rfl
  obtain ⟨lb, hv, hseq⟩ := facts_stops 2 hI2.mlt (hf.adv hI2.adv) h hb2 (fun g hg => by rw [hgn] at hg; cases hg)
  subst hv
  refine cw_block ?_
  refine cw_rangeV (val := fun r : RepI => .agg (encR r.1).toArray) (K := KB b2) (xs := l) rfl Tryd.call73 rfl hseq (fun h k => h.trans k) (fun W lp o o' hlp ho hc _ => KB.putObj ho hc (by omega))
    (fun pre W => ∃ v', Hp w [] M (grS ReportE 61 22 b2 v' (pre.map Subtype.val)) W ∧ w2.heap.size ≤ W.heap.size ∧ pre.length ≤ l.length) (fun _ _ => False) ?_ (fun _ _ _ _ h _ _ => h.elim) ⟨_, hI3, Nat.le_refl _, Nat.zero_le _⟩ (AlR M b2) ?_ ?_ ?_ ?_ (fun _ _ _ _ _ h _ => h.elim)
  · rintro pre W W' row ⟨v', h1, h2, h3⟩ hg hr
    exact ⟨v', h1.turnG flatR (fun h => h) hg (fun r e => ⟨Nat.le_trans hI3.kp.size (hr r e).1, (hr r e).2⟩), Nat.le_trans h2 hg.size, h3⟩
  · rintro x L' _ W W' row ⟨b5, u, h1, h2, h3, h4, h5, h6⟩ hg hr
    have hcl : ∀ (b : Nat) (o : Obj), W.heap[b]? = some o → o.isCells = true → W'.heap[b]? = W.heap[b]? := fun b o hb hc => hg.block b (heap_lt hb) fun e => by
      obtain ⟨_, o', g1, g2⟩ := hr b e.symm
      rw [hb] at g1; cases g1
      rw [hc] at g2; cases g2
    exact ⟨b5, u, h1, (hcl b5 _ h2 rfl).trans h2, (hcl b2 _ h3 rfl).trans h3, h4, h5, h6⟩
  · rintro l' pre x W ⟨v', h1, h2, h3⟩
    refine ci_reg rfl ?_
    refine y_al h1 Tryd.zeroValue61 rfl rfl ?_
    intro b5 w5 hI5 x5
    refine y_st 0 hI5 rfl rfl rfl rfl Tryd.sizeOf61 rfl rfl (one1 rfl (one1 rfl (one1 rfl (one1 rfl (one1 rfl (one1 rfl (one1 rfl (one1 rfl one0)))))))) ?_
    intro w6 hI6 x6
    have hI6' : Hp w [] M (rowR 61 b5 (encR x.1) :: grS ReportE 61 22 b2 v' (pre.map Subtype.val)) w6 := hI6
    have hI7 : Hp w [] M (grS ReportE 61 22 b2 v' (pre.map Subtype.val)) w6 := hI6'.erase 0
    have hA : Adv (mm (grS ReportE 61 22 b2 v' (pre.map Subtype.val)) M) (mm (grS ReportE 61 22 b2 v' (pre.map Subtype.val)) M) W w6 := x5.trans (x6.trans (Hp.eraseA (σ := rowR 61 b5 (encR x.1) :: grS ReportE 61 22 b2 v' (pre.map Subtype.val)) 0))
    obtain ⟨hk1, hk2⟩ := h1.kb hI7 hA
    refine Reg.nil ⟨rfl, ⟨hk2.size, fun k o hB => hk2.same k o (Nat.le_trans hI3.kp.size hB)⟩, hk1, ⟨v', hI7, Nat.le_trans h2 hA.kp.size, h3⟩, b5, v', Sub.cons rfl (Sub.cons rfl (Sub.nil _)), hI6'.row 0 rfl, hI6'.row 2 rfl, ?_, ?_, ?_⟩
    · intro hb
      exact hI6'.dis 0 1 _ _ rfl rfl (by omega) b5 (by simp [rowR]) hb
    · intro hb
      exact hI6'.dis 0 2 _ _ rfl rfl (by omega) b5 (by simp [rowR]) (by simp [rowR, hb])
    · exact hI6'.sepM _ (List.mem_cons_self ..) b5 (by simp [rowR])
  · rintro l' pre x L' W ⟨v', h1, h2, h3⟩ ⟨b5, u, hs, hr5, hru, h5u, h52, h5M⟩ hlt
    have huv : u = v' := by
      have e1 : W.heap[b2]? = _ := hru
      have e2 : W.heap[b2]? = _ := h1.row 1 rfl
      rw [e1] at e2
      have := Option.some.inj e2
      injection this with h9
      simpa using h9
    subst huv
    refine ci_sub hs ?_
    refine ci_block ?_
    have hC5 : RdC (mm (grS ReportE 61 22 b2 u (pre.map Subtype.val)) M) W b5 0 (encR x.1) := RdC.of_row (fun hb => by
      simp only [mm, ownR, rowR, List.mem_append, List.mem_cons, List.not_mem_nil, or_false] at hb
      rcases hb with h9 | h9 | h9
      · exact h5u h9
      · exact h52 h9
      · exact h5M h9) hr5
    obtain ⟨q0, q1, q2, q3, q4, q5, q6, q7⟩ := x.2
    refine ci_reg rfl ?_
    refine s_ld rfl ((h1.row 1 rfl).rd.cells.at 0 rfl) Tryd.isAgg22 rfl ?_
    refine s_lda rfl hC5.cells Tryd.isAgg61 rfl Tryd.sizeOf61 rfl ?_
    refine y_bs (E := ReportE) (xs := [x.1]) sl22 h1 rfl rfl (Cls.cons rfl Cls.nil) (Chs.cons (ReportE_R.2 ⟨rfl, q0, q1, q2, q3, q4, q5, q6, q7⟩) Chs.nil) rfl rfl ?_
    intro v8 w8 hI8 x8
    have hf9 := hI8.freeze 0 rfl
    have hI9 := hI8.erase 0
    have hlen : (pre.map Subtype.val).length + [x.1].length ≤ l.length := by simp; omega
    refine y_app 0 sl22 hI9 rfl rfl rfl hf9 ⟨?_, ?_⟩ rfl ?_
    · omega
    · omega
    intro v10 w10 hI10 x10
    refine y_st 1 hI10 rfl rfl rfl (Own.cells1 (hI10.ownAt 0 rfl)) Tryd.sizeOf22 rfl rfl (one1 (Own.oneC (hI10.ownAt 0 rfl)) one0) ?_
    intro w11 hI11 x11
    have hI12 : Hp w [] M (grS ReportE 61 22 b2 v10 ((pre ++ [x]).map Subtype.val)) w11 := by
      have h9 : (pre ++ [x]).map Subtype.val = pre.map Subtype.val ++ [x.1] := by simp
      rw [h9]; exact hI11
    have hA : Adv (mm (grS ReportE 61 22 b2 u (pre.map Subtype.val)) M) (mm (grS ReportE 61 22 b2 v10 ((pre ++ [x]).map Subtype.val)) M) W w11 := by
      have h9 : (pre ++ [x]).map Subtype.val = pre.map Subtype.val ++ [x.1] := by simp
      rw [h9]
      exact x8.trans ((Hp.eraseA (σ := ownR [] ReportE 61 v8 [x.1] :: grS ReportE 61 22 b2 u (pre.map Subtype.val)) 0).trans (x10.trans x11))
    obtain ⟨hk1, hk2⟩ := h1.kb hI12 hA
    exact Reg.nil ⟨⟨hk2.size, fun k o hB => hk2.same k o (Nat.le_trans hI3.kp.size hB)⟩, hk1, v10, hI12, Nat.le_trans h2 hA.kp.size, by simp; omega⟩
  · rintro D W hD ⟨v', h1, h2, h3⟩ hdef
    refine cw_seq ?_
    refine cw_regF ?_
    refine s_ld rfl ((h1.row 1 rfl).rd.cells.at 0 rfl) Tryd.isAgg22 rfl ?_
    refine s_as rfl rfl ?_
    refine Reg.nil ?_
    refine cw_ret ?_
    have h9 := h1.turnG flatR (fun h => h) (grownBy_putObj' W D (.deferred none)) fun j e => by cases e; exact ⟨Nat.le_trans hI3.kp.size hD, _, hdef, rfl⟩
    refine .inr ⟨D, _, rfl, run_takeDeferred hdef, v', fun a ha => ?_, v', rfl, h9.ownOut 0 rfl, h9.kp⟩
    rw [results_tmp Tryd.results69, ha.getD rfl]
end Go.Proofs.YtepjkmoipjeghaaDoor
namespace Go.Sx
open Go Go.RowKit Go.WideShapes
variable [Trk]
def Bridge (P : Program) (t : TypeId) {α : Type} (E : Enc α) : Prop :=
  ∀ (H : Type) (enc : TypeId × Value → H) (w : World) (n : Nat) (cs : List Value) (x : DataW H × List MemPlace), DataW.trod enc P w 0 (fun _ => true) true n t cs = some x → ∃ a, E.R [] w cs a
theorem wf_InK {k : IntKind} {n : Int} (h : (Lit.int k n).wf = true) : InK k n := by
  simpa [Lit.wf, InK] using h
theorem bridge_int {P : Program} {t : TypeId} {k : IntKind} (ht : P.underlying t = some (.int k)) : Bridge P t (intE k) := fun H enc w n cs x h => by
  obtain ⟨r, e1, _, hw⟩ := DataW.trod_int ht h
  exact ⟨r, e1, wf_InK hw⟩
theorem bridge_map {P : Program} {t : TypeId} {α β : Type} {f : β → α} {E : Enc α} (g : α → β) (hg : ∀ a, f (g a) = a) (B : Bridge P t E) : Bridge P t (mapE f E) := fun H enc w n cs x h => by
  obtain ⟨a, ha⟩ := B H enc w n cs x h
  exact ⟨g a, by show E.R [] w cs (f (g a)); rw [hg]; exact ha⟩
theorem bridge_slice {P : Program} {t e : TypeId} {α : Type} {E : Enc α} (ht : P.underlying t = some (.slice e)) (hc : P.cellsOf e = E.n) (B : Bridge P e E) : Bridge P t (sliceE E) := fun H enc w n cs x h => by
  rcases Go.Deep.open_slice ht h with ⟨rfl, _⟩ | ⟨a, len, cap, m, k, D, Pl, rfl, hb, hl, hm, hmm, _, hel⟩
  · exact ⟨[], .slice none 0 0, rfl, RdS.nil _ _ _⟩
  · simp only [if_true] at hmm
    rw [hmm] at hel
    have hx : ∀ i, ∃ y : Option α, i < len → ∃ cs' a', y = some a' ∧ E.R [] w cs' a' ∧ w.cells? 0 (a.add (i * P.cellsOf e)) (P.cellsOf e) = some cs' := fun i => by
      by_cases hi : i < len
      · obtain ⟨cs', h1, h2⟩ := hel i (by omega)
        obtain ⟨a', ha⟩ := B H enc w k cs' _ h2
        exact ⟨some a', fun _ => ⟨cs', a', rfl, ha, h1⟩⟩
      · exact ⟨none, fun h => absurd h hi⟩
    by_cases h0 : len = 0
    · subst h0
      exact ⟨[], .slice (some a) 0 cap, rfl, some a, cap, rfl, Nat.zero_le _, hm, .inl rfl⟩
    have hlist : ∃ xs : List α, xs.length = len ∧ ∀ i (hi : i < xs.length), ∃ cs', E.R [] w cs' xs[i] ∧ w.cells? 0 (a.add (i * P.cellsOf e)) (P.cellsOf e) = some cs' := by
      have h1 : ∀ i (hi : i < len), ∃ a', ∃ cs', E.R [] w cs' a' ∧ w.cells? 0 (a.add (i * P.cellsOf e)) (P.cellsOf e) = some cs' := fun i hi => by
        obtain ⟨y, hy⟩ := hx i
        obtain ⟨cs', a', _, h2, h3⟩ := hy hi
        exact ⟨a', cs', h2, h3⟩
      refine ⟨List.ofFn fun i : Fin len => (h1 i.1 i.2).choose, by simp, fun i hi => ?_⟩
      have hi' : i < len := by simpa using hi
      simpa using (h1 i hi').choose_spec
    obtain ⟨xs, hxl, hxs⟩ := hlist
    have hpos := E.pos
    have hspot : ∃ b o, a = ⟨b, o, none⟩ := by
      obtain ⟨cs', hR, hcc⟩ := hxs 0 (by omega)
      obtain ⟨_, hlen, hcell⟩ := World.cells?_some hcc
      have hn := E.len hR
      have h00 := hcell 0 (by omega)
      rw [Nat.zero_mul] at h00
      have ha : (a.add 0).add 0 = a := by simp [Addr.add]
      rw [ha, List.getElem?_eq_getElem (by omega)] at h00
      obtain ⟨b, o, s⟩ := a
      have hs : s = none := World.cell?_spot h00
      exact ⟨b, o, by rw [hs]⟩
    obtain ⟨b, o, rfl⟩ := hspot
    have hlt : b < w.heap.size := by
      obtain ⟨cs', hR, hcc⟩ := hxs 0 (by omega)
      obtain ⟨_, hlen, hcell⟩ := World.cells?_some hcc
      have hn := E.len hR
      have h00 := hcell 0 (by omega)
      rw [List.getElem?_eq_getElem (by omega)] at h00
      have := cell_lt h00
      simpa [add_none] using this
    refine ⟨xs, .slice (some ⟨b, o, none⟩) len cap, rfl, some ⟨b, o, none⟩, cap, by rw [hxl], by omega, hm, .inr ⟨b, o, rfl, by simp, hlt, fun i hi => ?_⟩⟩
    obtain ⟨cs', hR, hcc⟩ := hxs i hi
    obtain ⟨_, hlen, hcell⟩ := World.cells?_some hcc
    refine ⟨cs', hR, fun j u hj => ?_⟩
    have hjl : j < P.cellsOf e := by
      rcases Nat.lt_or_ge j cs'.length with h | h
      · omega
      · simp [List.getElem?_eq_none h] at hj
    have := hcell j hjl
    rw [add_none, add_none, hj, hc] at this
    exact this
/-- The fields from here on. -/
def FieldsB (P : Program) (N : Nat) (fs : List Field) {α : Type} (E : Enc α) : Prop :=
  ∀ (H : Type) (enc : TypeId × Value → H) (w : World) (cs : List Value), cs.length = N →
    (∀ f ∈ fs, ∃ (n : Nat) (x : DataW H × List MemPlace), DataW.trod enc P w 0 (fun _ => true) true n f.type ((cs.drop f.offset).take (P.cellsOf f.type)) = some x) →
    ∃ a, E.R [] w (cs.drop ((fs.head?.map (·.offset)).getD 0)) a
theorem fb_last {P : Program} {N : Nat} {f : Field} {α : Type} {E : Enc α} (B : Bridge P f.type E) (hN : f.offset + P.cellsOf f.type = N) : FieldsB P N [f] E := fun H enc w cs hl h => by
  obtain ⟨n, x, hx⟩ := h f (by simp)
  have : (cs.drop f.offset).take (P.cellsOf f.type) = cs.drop f.offset := List.take_of_length_le (by rw [List.length_drop]; omega)
  rw [this] at hx
  exact B H enc w n _ x hx
theorem fb_cons {P : Program} {N : Nat} {f g : Field} {r : List Field} {α β : Type} {E : Enc α} {F : Enc β} (B : Bridge P f.type E) (hN : f.offset + P.cellsOf f.type = g.offset) (R : FieldsB P N (g :: r) F) : FieldsB P N (f :: g :: r) (prodE E F) :=
  fun H enc w cs hl h => by
    obtain ⟨n, x, hx⟩ := h f (by simp)
    obtain ⟨a, ha⟩ := B H enc w n _ x hx
    obtain ⟨b, hb⟩ := R H enc w cs hl fun f' hf' => h f' (List.mem_cons_of_mem _ hf')
    refine ⟨(a, b), (cs.drop f.offset).take (P.cellsOf f.type), cs.drop g.offset, ?_, ha, hb⟩
    show cs.drop f.offset = _
    rw [← hN, ← List.drop_drop, List.take_append_drop]
theorem bridge_struct {P : Program} {t : TypeId} {f : Field} {r : List Field} {α : Type} {E : Enc α} (ht : P.underlying t = some (.struct (f :: r).toArray)) (h0 : f.offset = 0) (F : FieldsB P (P.cellsOf t) (f :: r) E) : Bridge P t E := fun H enc w n cs x h => by
  obtain ⟨xs, m, _, _, hl, hlen, hf⟩ := DataW.trod_struct ht h
  obtain ⟨a, ha⟩ := F H enc w cs hl fun g hg => by
    obtain ⟨i, hi, rfl⟩ := List.getElem_of_mem hg
    have hi' : i < xs.length := by rw [hlen]; simpa using hi
    have := hf i (f :: r)[i] (by simp [List.getElem?_eq_getElem hi])
    rw [List.getElem?_eq_getElem hi'] at this
    exact ⟨m, _, this⟩
  exact ⟨a, by simpa [h0] using ha⟩
/-- An argument, opened. -/
theorem open_arg {P : Program} {t : TypeId} {α : Type} {E : Enc α} (B : Bridge P t E) {H : Type} {enc : TypeId × Value → H} {w : World} {v : Value} {d : DataW H} {p : List MemPlace} (h : DataW.Trod enc P w 0 (fun _ => true) true t v d p) : ∃ a, E.R [] w v.cells.toList a := by
  obtain ⟨n, hn⟩ := h
  exact B H enc w n _ _ hn
end Go.Sx
