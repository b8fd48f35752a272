/-
  Part AccountClashes 5 of the texts that the statement's proof stands on: what memory holds, how code is walked, what the functions reckon. In the order in which they build.
-/
import Derived.RangeFuncLeaves
import Derived.RangeFuncNested
import Derived.TacticsIn
import Derived.RangeFuncKeeps
import Derived.Test.YtepjkmoipjeghaaDoorRows
import Derived.WalkKit
import Derived.ProofKit
import Derived.OpenShut
import Derived.ChangeOld
import Derived.Below
import Derived.LaidMore
import Derived.Stop.Joined
import Derived.Test.YtepjkmoipjeghaaDoorProg
import Derived.Test.YtepjkmoipjeghaaDoorAqAccountClashes4
set_option linter.unusedVariables false
set_option linter.unusedSectionVars false
namespace Go.Sx
open Go Go.RowKit
variable [Trk]
/-- A function's end, where a range over a function may have left its mark. -/
def FinM (P : Program) (fn : Func) (R : Ending → World → Prop) (ds : List Deferred) (L : Env) (w : World) : Prop :=
  (ds = [] ∧ ∃ v, (∀ a, Knows fn.ntmps ds L a → (results fn a.tmps).run P w = .ok v w) ∧ R (.returned v) w) ∨
  ∃ D w', ds = [{ target := .collected D, args := #[] }] ∧ (Instr.takeDeferred D).run P w = .ok [] w' ∧ ∃ v, (∀ a, Knows fn.ntmps ds L a → (results fn a.tmps).run P w' = .ok v w') ∧ R (.returned v) w'
theorem calls_cwM {P : Program} {f : FuncId} {fn : Func} {c : Code} {l : List Value} {w : World} {R : Ending → World → Prop} {N : Nat}
    (hf : P.funcs[f]? = some fn) (hb : fn.body = some c) (hN : fn.ntmps = N) (hl : Nat.ble l.length N = true)
    (h : CW P N c [] (argEnv 0 l) w (FinM P fn R) (FinM P fn R) NoX NoZ) : Calls P f l.toArray w R := by
  subst hN
  refine (callsIn_wide (n := 3)).1 (callsIn_of_wp_marks hf hb trivial (wpIn_wide.2 (wp_mono (h _ ⟨?_, rfl, ?_⟩) ?_)) rfl)
  · have : l.length ≤ fn.ntmps := Nat.le_of_ble_eq_true hl
    simp; omega
  · intro t v ht
    obtain ⟨j, rfl, hj⟩ := look_argEnv l 0 t v ht
    have hlt : j < l.length := by
      rcases Nat.lt_or_ge j l.length with h | h
      · exact h
      · simp [List.getElem?_eq_none h] at hj
    simp only [Nat.zero_add]
    rw [Array.getElem?_append_left (by simpa using hlt)]
    simpa using hj
  · intro e a w' hq
    have fin : ∀ ds L, Knows fn.ntmps ds L a → FinM P fn R ds L w' → LeavesInM Fence.wide 3 P fn a.tmps R a.defers .returning w' := fun ds L ha hF => by
      rcases hF with ⟨rfl, v, hv, hR⟩ | ⟨D, w2, rfl, ht, v, hv, hR⟩
      · rw [ha.defers]; exact ⟨v, hv a ha, hR⟩
      · rw [ha.defers]; exact ⟨by simp, .inl ⟨D, w2, rfl, ht, ⟨v, hv a ha, hR⟩⟩⟩
    cases e with
    | normal => obtain ⟨ds, L, ha, hF⟩ := hq; exact fin ds L ha hF
    | ret => obtain ⟨ds, L, ha, hF⟩ := hq; exact fin ds L ha hF
    | panic ch => obtain ⟨ds, L, ha, hF⟩ := hq; exact hF.elim
    | exit i => obtain ⟨ds, L, ha, hx⟩ := hq; exact hx.elim
    | goto l => exact hq.elim
    | outgrown => exact hq.elim
end Go.Sx
namespace Go.Sx
open Go Go.RowKit
variable [Trk]
/-- Nothing is fenced; code runs in a round of loop l. -/
def FW (l : Nat) : Fence := Fence.wide.inRound l
theorem callsIn_FW {l n : Nat} {P : Program} {f : FuncId} {args : Array Value} {w : World} {R : Ending → World → Prop} (h : Calls P f args w R) : CallsIn (FW l) n P f args w R :=
  show CallsIn Fence.wide n P f args w R from callsIn_wide.2 h
theorem uponIn_of {l n : Nat} {P : Program} {o : Oper} {a : Act} {next next' : Act → World → Prop} {Q : Exit → Act → World → Prop} (hn : ∀ a w, next a w → next' a w) {r : Result Next} (h : o.upon P a next Q r) : o.uponIn (FW l) n P a next' Q r := by
  unfold Oper.upon at h
  split at h
  · exact hn _ _ h
  · exact hn _ _ h
  · exact hn _ _ h
  · refine ⟨fun e => (by cases e), callsIn_FW (h.mono fun e w2 h2 => ?_)⟩
    cases e with
    | returned v => exact hn _ _ h2
    | panicked c => exact h2
    | outgrown => exact h2
  · refine ⟨fun e => (by cases e), fun c cs _ => ?_⟩
    obtain ⟨v, w2, h2, h3⟩ := h c cs
    exact ⟨v, w2, hn _ _ h2, (show StepsIn (Machine.fenced P Fence.wide) P _ _ from stepsIn_wide.2 h3)⟩
  · exact h
  · exact h.elim
def noDefer : Op → Bool
  | .defer _ => false
  | _ => true
theorem wpListIn_of {l n : Nat} {P : Program} {ops : Array Oper} {Q : Exit → Act → World → Prop} (hQ : ¬ LetsOut Q) : ∀ {os : List Oper} {a : Act} {w : World}, os.all (fun o => noDefer o.op) = true → wpList P ops Q os a w → wpListIn (FW l) n P ops Q os a w
  | [], _, _, _, h => h
  | o :: os, a, w, hd, h => by
    simp only [List.all_cons, Bool.and_eq_true] at hd
    have ih : ∀ a w, wpList P ops Q os a w → wpListIn (FW l) n P ops Q os a w := fun a w => wpListIn_of hQ hd.2
    unfold wpList at h
    unfold wpListIn
    split at h
    · rename_i hw
      rw [if_pos hw]
      rcases h with h | h
      · refine ⟨fun _ _ => trivial, ?_⟩
        have hs : Oper.semAt (FW l).round a.eval o = execOp a.eval o := Oper.semAt_eq _ _ _ fun c hc => by rw [hc] at hd; simp [noDefer] at hd
        rw [hs]
        exact uponIn_of ih h
      · exact absurd h.2 hQ
    · rename_i hw
      rw [if_neg hw]
      exact ⟨fun _ _ => trivial, ih _ _ h⟩
/-- What code does in a round. -/
def CI (l n : Nat) (P : Program) (N : Nat) (c : Code) (ds : List Deferred) (L : Env) (w : World) (A B : Out) (X : Nat → Out) (Z : List PanicEntry → Out) : Prop := ∀ a, Knows N ds L a → c.wpIn (FW l) n P (lift N A B X Z) a w
section
variable {l n : Nat} {P : Program} {N : Nat} {ds : List Deferred} {L : Env} {w : World} {A B : Out} {X : Nat → Out} {Z : List PanicEntry → Out}
theorem noOut : ¬ LetsOut (lift N A B X Z) := fun ⟨_, _, h⟩ => h
theorem ci_reg {id : Nat} {os : List Oper} (hd : os.all (fun o => noDefer o.op) = true) (h : Reg P N os.toArray .seq os ds L w A B X Z) : CI l n P N (.region id os.toArray false) ds L w A B X Z :=
  fun a ha => wpIn_region_lit (wpListIn_of noOut hd (h a ha))
theorem ci_seq {x y : Code} (h : CI l n P N x ds L w (fun ds' L' w' => CI l n P N y ds' L' w' A B X Z) B X Z) : CI l n P N (.seq x y) ds L w A B X Z := fun a ha =>
  wpIn_seq (wpIn_mono (h a ha) fun e a' w' hq => by
    cases e with
    | normal => obtain ⟨ds', L', ha', hk⟩ := hq; exact hk a' ha'
    | _ => exact hq)
theorem ci_skip (h : A ds L w) : CI l n P N .skip ds L w A B X Z := fun a ha => wpIn_skip ⟨ds, L, ha, h⟩
theorem ci_cond {c : Operand} {x y : Code} {b : Bool} (hc : ev L c = some (.bool b)) (ht : b = true → CI l n P N x ds L w A B X Z) (hf : b = false → CI l n P N y ds L w A B X Z) : CI l n P N (.cond c x y) ds L w A B X Z := fun a ha => by
  cases b with
  | true => exact wpIn_cond_true (ha.eval hc) (ht rfl a ha)
  | false => exact wpIn_cond_false (ha.eval hc) (hf rfl a ha)
end
section
variable {l n : Nat} {P : Program} {N : Nat} {ds : List Deferred} {L : Env} {w : World} {A B : Out} {X : Nat → Out} {Z : List PanicEntry → Out}
theorem ci_sub {c : Code} {L' : Env} (hs : Sub L L') (h : CI l n P N c ds L w A B X Z) : CI l n P N c ds L' w A B X Z := fun a ha => h a (ha.sub hs)
theorem ci_block {id : Nat} {c : Code} (h : CI l n P N c ds L w A B (exB id A X) Z) : CI l n P N (.block id c) ds L w A B X Z := fun a ha =>
  wpIn_block (wpIn_mono (h a ha) fun e a' w' hq => by
    cases e with
    | exit i =>
      obtain ⟨ds', L', ha', hx⟩ := hq
      simp only [Exit.inBlock]
      by_cases hi : i = id
      · subst hi
        rw [if_pos rfl]
        exact ⟨ds', L', ha', by simpa [exB] using hx⟩
      · rw [if_neg hi]
        refine ⟨ds', L', ha', ?_⟩
        have hb : Nat.beq i id = false := by
          cases hb : Nat.beq i id with
          | false => rfl
          | true => exact absurd (Nat.eq_of_beq_eq_true hb) hi
        simpa [exB, hb] using hx
    | _ => exact hq)
end
end Go.Sx
namespace Go.Sx
open Go Go.RowKit
variable [Trk]
/-- A region in which something is yielded. -/
def Rgi (n : Nat) (P : Program) (N : Nat) (ops : Array Oper) (l : List Oper) (ds : List Deferred) (L : Env) (w : World) (A B : Out) (X : Nat → Out) (Z : List PanicEntry → Out) : Prop :=
  ∀ a, Knows N ds L a → wpListIn Fence.wide n P ops (lift N A B X Z) l a w
section
variable {n : Nat} {P : Program} {N : Nat} {ops : Array Oper} {rest : List Oper} {ds : List Deferred} {L : Env} {w : World} {A B : Out} {X : Nat → Out} {Z : List PanicEntry → Out}
theorem cw_regI {id : Nat} {l : List Oper} (n : Nat) (h : Rgi n P N l.toArray l ds L w A B X Z) : CW P N (.region id l.toArray false) ds L w A B X Z := fun a ha => wpIn_wide.1 (wpIn_region_lit (h a ha))
theorem Rgi.nil (h : A ds L w) : Rgi n P N ops [] ds L w A B X Z := fun a ha => ⟨ds, L, ha, h⟩
theorem Rgi.val {o : Oper} {d : Nat} (v : Value) (hg : o.guard = none) (hd : o.dst = some d) (hN : Nat.blt d N = true) (hdf : noDefer o.op = true)
    (hr : ∀ a, Knows N ds L a → (execOp a.eval o).run P w = .ok (.value v) w) (h : Rgi n P N ops rest ds ((d, v) :: L) w A B X Z) : Rgi n P N ops (o :: rest) ds L w A B X Z := fun a ha => by
  unfold wpListIn
  rw [if_pos (by unfold Region.wanted; rw [hg])]
  refine ⟨fun _ _ => trivial, ?_⟩
  have hs : Oper.semAt Fence.wide.round a.eval o = execOp a.eval o := Oper.semAt_eq _ _ _ fun c hc => by rw [hc] at hdf; simp [noDefer] at hdf
  rw [hs, hr a ha]
  show wpListIn _ _ _ _ _ rest (a.put o.dst v) w
  rw [hd]
  exact h _ (ha.put hN v)
theorem Rgi.yield {f x : Operand} {l d : Nat} {v : Value} {ts : Array TypeId} {ty : TypeId} {pos : String} {af : Array Edge} {R : Ending → World → Prop} (hf : ev L f = some (.func (.yield l) #[] #[])) (hx : ev L x = some v) (hN : Nat.blt d N = true)
    (hY : YieldAt Fence.wide (n - 1) P l #[v] w R) (h : ∀ e w', R e w' → ∃ u, e = .returned u ∧ Rgi n P N ops rest ds ((d, u) :: L) w' A B X Z) :
    Rgi n P N ops (⟨some d, .call ⟨.value f, #[x], ts⟩, ty, pos, af, none⟩ :: rest) ds L w A B X Z := fun a ha => by
  obtain ⟨fn, tmps, assign, body, hy, hR⟩ := hY
  unfold wpListIn
  rw [if_pos (by rfl)]
  refine ⟨fun _ _ => trivial, ?_⟩
  have hs : ∀ o : Oper, noDefer o.op = true → Oper.semAt Fence.wide.round a.eval o = execOp a.eval o := fun o hdf => Oper.semAt_eq _ _ _ fun c hc => by rw [hc] at hdf; simp [noDefer] at hdf
  rw [hs _ rfl]
  have hrun : (execOp a.eval ⟨some d, .call ⟨.value f, #[x], ts⟩, ty, pos, af, none⟩).run P w = .ok (.round l fn tmps assign body) w := by
    simp [execOp, resolve, ha.eval hf, ha.eval hx, Deferred.ofValue, invoke, hy]
  rw [hrun]
  refine ⟨fun e => (by cases e), hR.mono fun e w' h' => ?_⟩
  obtain ⟨u, rfl, h2⟩ := h e w' h'
  exact h2 _ (ha.put hN u)
end
/-- The block of the slice that a variable's first cell holds. -/
def gOf (w : World) (b : Nat) : Option Nat := match w.cell? ⟨b, 0, none⟩ with
  | some v => (ob v).head?
  | none => none
/-- What a body keeps that writes a variable, and what its slice has, alone. -/
structure KB (b2 : Nat) (w w' : World) : Prop where
  size : w.heap.size ≤ w'.heap.size
  cell : ∀ b j v, b ≠ b2 → gOf w b2 ≠ some b → w.cell? ⟨b, j, none⟩ = some v → w'.cell? ⟨b, j, none⟩ = some v
  gof : ∀ g, gOf w' b2 = some g → gOf w b2 = some g ∨ w.heap.size ≤ g
theorem KB.refl (b2 : Nat) (w : World) : KB b2 w w := ⟨Nat.le_refl _, fun _ _ _ _ _ h => h, fun _ h => .inl h⟩
theorem KB.trans {b2 : Nat} {A B C : World} (h : KB b2 A B) (k : KB b2 B C) : KB b2 A C :=
  ⟨Nat.le_trans h.size k.size, fun b j v h1 h2 h3 => k.cell b j v h1 (fun e => (h.gof b e).elim h2 fun h4 => by
    have := cell_lt h3
    have : b < A.heap.size := this
    omega) (h.cell b j v h1 h2 h3), fun g hg => (k.gof g hg).elim (h.gof g) fun h4 => .inr (Nat.le_trans h.size h4)⟩
theorem KB.of_ext {b2 : Nat} {A B : World} (h : Ext A B) (hb : b2 < A.heap.size) : KB b2 A B :=
  ⟨h.size, fun b j v _ _ h3 => h.cell (p := ⟨b, j, none⟩) (by simp) h3, fun g hg => .inl (by
    unfold gOf at hg ⊢
    rw [World.cell?_of_block (a := ⟨b2, 0, none⟩) (w := A) (h.block b2 hb (by simp))] at hg
    exact hg)⟩
theorem KB.putObj {b2 l : Nat} {o o' : Obj} {W : World} (h : W.heap[l]? = some o) (ho : o.isCells = false) (hb : b2 ≠ l) : KB b2 W (W.putObj l o') := by
  have hne : ∀ b, b ≠ l → (W.putObj l o').heap[b]? = W.heap[b]? := fun b hb => World.putObj_heap_other hb
  refine ⟨by simp, fun b j v _ _ h3 => ?_, fun g hg => .inl ?_⟩
  · by_cases e : b = l
    · subst e
      unfold World.cell? at h3
      simp only [h] at h3
      cases o <;> simp [Obj.isCells] at ho h3
    · rw [World.cell?_of_block (a := ⟨b, j, none⟩) (w := W) (hne b e)]; exact h3
  · unfold gOf at hg ⊢
    rw [World.cell?_of_block (a := ⟨b2, 0, none⟩) (w := W) (hne b2 hb)] at hg
    exact hg
/-- What was below stays: for readings, which ask nothing of how often was drawn. -/
theorem Ext.of_below0 {a b : World} (h : Below a.heap.size a b) (t : ¬ Trk.t) : Ext a b := ⟨h.os, h.tape, h.output, h.size, fun k hk _ => h.block k hk, fun h => absurd h t⟩
theorem Ext.grownBy {a b : World} (h : Ext a b) : a.grownBy b none := ⟨h.os, h.tape, h.output, h.size, fun k hk _ => h.block k hk (by simp)⟩
end Go.Sx
set_option maxRecDepth 20000
namespace Go.Proofs.YtepjkmoipjeghaaDoor
open Go Go.Sx Go.RowKit
variable [Trk]
noncomputable def P.account_facts (d_c : Desk) : Option (List Report) :=
  Option.bind (anyM (S := (FMap Int Report)) (fun x15 (y16 : Int × Report) => Option.bind (Option.bind (Option.bind (some ((d_c.fixed y16.1).getD 0)) fun y39 => Option.bind (cond ((d_c.fixed y16.1).isSome) (Option.bind (Option.bind (some ((d_c.store.reports y39).getD (Report.mk 0 0 0 0 0 0 0 0))) fun y45 => Option.bind (some ((d_c.store.reports y39).getD (Report.mk 0 0 0 0 0 0 0 0))) fun y70 => some (y45.about, y70.cents)) fun (x105, x106) => some (x105, x106)) (some (y16.2.about, y16.2.cents))) fun (x107, x108) => some (x107, x108)) fun (x109, x110) => Option.bind (P.account_fact (Report.mk y16.2.id y16.2.source y16.2.account y16.2.made x109 y16.2.kind x110 y16.2.of_)) fun z111 => Option.bind (cond z111 (some (fput x15 y16.1 (Report.mk y16.2.id y16.2.source y16.2.account y16.2.made x109 y16.2.kind x110 y16.2.of_))) (some x15)) fun x120 => some x120) fun x121 => some x121) d_c.store.reports fnone) fun x122 => Option.bind (anyM (S := (FMap Int Report)) (fun x133 (y134 : Int × Int) => some (fdel x133 y134.1)) d_c.gone x122) fun x145 => anyK x145 fun (l160 : List (Int × Report)) => Option.bind (List.foldlM (fun (x158 : (List Report)) (y159 : Int × Report) => Option.bind (appo 64 x158 ([(Report.mk y159.2.id y159.2.source y159.2.account y159.2.made y159.2.about y159.2.kind y159.2.cents y159.2.of_)] : List Report)) fun l190 => some l190) [] l160) fun x195 => Option.bind (P.account_ordered_74 x195 ([75, 76] : List Nat)) fun z202 => some z202
theorem C_account_facts {M : List Nat} {w : World} (hM : MLt M w) {d_c : Desk} {v_d_c_0 : Value} {v_d_c_1 : Value} {v_d_c_2 : Value} (f_d_c_0 : RdF Ky3 ReportE true M w v_d_c_0 d_c.store.reports) (f_d_c_1 : RdF Ky3 (intE .i64) false M w v_d_c_1 d_c.gone) (f_d_c_2 : RdF Ky3 (intE .i64) false M w v_d_c_2 d_c.fixed) {b_d_c : Nat} (c_d_c : RdC M w b_d_c 0 [v_d_c_0, v_d_c_1, v_d_c_2]) {r0 : List Report} (h : P.account_facts d_c = some r0) {b2 : Nat} (hb2 : b2 < w.heap.size) (hg2 : ∀ g, gOf w b2 = some g → g < w.heap.size) {n lp : Nat} {J Jx : List Report → World → Prop} (hJ : AbidesFrom w.heap.size J)
    (hY : ∀ (pre : List Report) (x : Report) (W1 : World), J pre W1 → pre.length < r0.length → r0[pre.length]? = some x → YieldAt Fence.wide (n - 1) Tryd.prog lp #[.agg (encR x).toArray] W1 fun e W' => (e = .returned (.bool true) ∧ J (pre ++ [x]) W' ∧ KB b2 W1 W') ∨ (e = .returned (.bool false) ∧ Jx (pre ++ [x]) W')) (h0 : J [] w) :
    Calls Tryd.prog 73 (List.toArray [.func (.yield lp) #[] #[], .pointer (some ⟨b_d_c, 0, none⟩)]) w fun e W' => (∃ v, e = .returned v) ∧ ((∃ xs, xs = r0 ∧ J xs W') ∨ (∃ pre, pre <+: r0 ∧ Jx pre W')) := by
 have hI := Hp.start (Mu := []) hM
 refine calls_cw Tryd.func73 rfl Tryd.ntmps73 rfl ?_
 refine cw_seq (cw_regF (y_mkF Ky3 ReportE true hI rfl ?_))
 intro b1 w2 hI3 x4
 refine s_as rfl rfl (Reg.nil (cw_seq (cw_seq (cw_regF (s_fa rfl Tryd.underlying92 rfl Tryd.sizeOf90 rfl (s_fa rfl Tryd.underlying90 rfl Tryd.sizeOf88 rfl (s_ld rfl ((c_d_c.adv hI3.adv).cells.at 0 rfl) Tryd.isAgg88 rfl (y_rg hI3 (f_d_c_0.adv hI3.adv) rfl Tryd.underlying88 rfl ?_))))))))
 intro r5 b6 c7 es8 xs9 w10 hX11 hL12 hI13 x14
 refine Reg.nil ?_
 obtain ⟨j15, h16, h⟩ := bnd h
 refine cw_keep [18, 0, 1, 3] rfl (cw_unitD 1 (ι := (FMap Int Report)) (fun x17 => []) (fun x17 => fun w18 => Hp w [] M [mapO Ky3 ReportE true b1 x17] w18 ∧ Adv (mm [itR r5 b6 c7 es8 xs9 none xs9, mapO Ky3 ReportE true b1 fnone] M) (mm [mapO Ky3 ReportE true b1 x17] M) w10 w18 ∧ x17 = j15) ?_ ?_)
 ·refine cw_block (cw_keep [0, 1, 3, 18] rfl (cw_loopA 0 (ι := (FMap Int Report)) _ (fun x22 => []) (fun x22 => x22) (fun x22 => fun l21 w23 => Hp w [] M [itR r5 b6 c7 es8 xs9 none l21, mapO Ky3 ReportE true b1 x22] w23 ∧ Adv (mm [itR r5 b6 c7 es8 xs9 none xs9, mapO Ky3 ReportE true b1 fnone] M) (mm [itR r5 b6 c7 es8 xs9 none l21, mapO Ky3 ReportE true b1 x22] M) w10 w23) fnone xs9 (anyM_out h16 hL12) ⟨hI13, (Adv.refl _ _)⟩ (sb4 rfl rfl rfl rfl) ?_))
  rintro x22 l21 w23 ⟨hI24, hA25⟩ h27 hR28
  refine cw_seq (cw_regF (y_nx 0 hI24 (hX11.adv (x14.trans hA25)) rfl rfl rfl (fun hn29 => ?_) ?_))
  ·obtain rfl := h27 hn29
   have hI39 := hI24.erase 0
   refine s_xt rfl rfl rfl (Reg.nil (cw_seq (cw_condF rfl ?_)))
   refine cw_exit (exB_same ?_)
   refine ⟨rfl, x22, ⟨hI39, (hA25.trans (hI24.eraseH 0)), rfl⟩, sb3 rfl rfl rfl⟩
  intro y30 l31 k32 v33 w34 hp35 hI36 x37
  obtain ⟨shB38, hB38⟩ := hR28 y30 l31 hp35
  have zhB38 := hB38
  refine s_xt rfl rfl rfl (Reg.nil (cw_seq (cw_condT rfl ?_)))
  refine cw_skip ?_
  obtain ⟨j40, h41, hB38⟩ := bnd hB38
  refine cw_keep [0, 1, 3, 18] rfl (cw_unitD 0 (ι := (FMap Int Report)) (fun x42 => []) (fun x42 => fun w43 => Hp w [] M [itR r5 b6 c7 es8 xs9 none l31, mapO Ky3 ReportE true b1 x42] w43 ∧ Adv (mm [itR r5 b6 c7 es8 xs9 (some y30) l31, mapO Ky3 ReportE true b1 x22] M) (mm [itR r5 b6 c7 es8 xs9 none l31, mapO Ky3 ReportE true b1 x42] M) w34 w43 ∧ x42 = j40) ?_ ?_)
  ·refine cw_block (cw_seq (cw_regF (y_en 0 hI36 (hX11.adv (x14.trans (hA25.trans x37))) rfl rfl rfl ?_)))
   intro v46 hk47 hv48
   obtain ⟨cs49, hR50, rfl⟩ := Vl.agg hv48
   obtain ⟨rfl, r51, r52, r53, r54, r55, r56, r57, r58⟩ := ReportE_R.1 hR50
   have hI59 := hI36.itOff 0 rfl
   refine s_xt rfl rfl rfl (s_xt rfl rfl rfl (y_al hI59 Tryd.zeroValue61 rfl rfl ?_))
   intro b60 w61 hI62 x63
   refine s_as rfl rfl (y_st 0 hI62 rfl rfl rfl rfl Tryd.sizeOf61 rfl rfl (on8 rfl rfl rfl rfl rfl rfl rfl rfl) ?_)
   intro w64 hI65 x66
   refine Reg.nil ?_
   obtain ⟨j67, h68, h41⟩ := bnd h41
   refine cw_keep [0, 1, 3, 4, 5, 18] rfl (cw_seqD 0 (ι := Int × Int) (fun ⟨x69, x71⟩ => []) (fun ⟨x69, x71⟩ => fun w73 => Hp w [] M [rowR 61 b60 [vi y30.2.id, vi y30.2.source, vi y30.2.account, vi y30.2.made, vi x69, vu y30.2.kind, vi x71, vi y30.2.of_], itR r5 b6 c7 es8 xs9 none l31, mapO Ky3 ReportE true b1 x22] w73 ∧ Adv (mm [rowR 61 b60 [vi y30.2.id, vi y30.2.source, vi y30.2.account, vi y30.2.made, vi y30.2.about, vu y30.2.kind, vi y30.2.cents, vi y30.2.of_], itR r5 b6 c7 es8 xs9 none l31, mapO Ky3 ReportE true b1 x22] M) (mm [rowR 61 b60 [vi y30.2.id, vi y30.2.source, vi y30.2.account, vi y30.2.made, vi x69, vu y30.2.kind, vi x71, vi y30.2.of_], itR r5 b6 c7 es8 xs9 none l31, mapO Ky3 ReportE true b1 x22] M) w64 w73 ∧ InK .i64 x69 ∧ InK .i64 x71 ∧ (x69, x71) = j67) ?_ ?_)
   ·refine cw_seq (cw_regF (s_fa rfl Tryd.underlying92 rfl Tryd.sizeOf79 rfl (s_ld rfl ((c_d_c.adv hI65.adv).cells.at 2 rfl) Tryd.isAgg79 rfl (s_mv rfl rfl ?_))))
    obtain ⟨y76, hy76, h68⟩ := bnd h68
    refine s_lkF (a := y30.1) (z0 := 0) (f_d_c_2.adv hI65.adv) rfl rfl (show InK .i64 y30.1 from (show InK .i64 y30.1 from hk47)) Tryd.underlying79 Tryd.zeroValue3 ⟨_, ⟨rfl, (by decide)⟩, .inr ⟨rfl, rfl⟩⟩ rfl ?_
    intro v77 hv78
    rw [Option.some.inj hy76] at hv78
    have hR79 := Vl.one1 hv78
    obtain ⟨r80', r80⟩ := hR79
    obtain rfl := one_inj r80'
    refine s_mv rfl rfl (s_xt rfl rfl rfl (s_xt rfl rfl rfl (s_as rfl rfl (s_as rfl rfl (Reg.nil (cw_seq (cw_regF (s_mv rfl rfl (Reg.nil ?_)))))))))
    obtain ⟨j81, h82, h68⟩ := bnd h68
    refine cw_keep [6, 31, 0, 1, 3, 4, 5, 18] rfl (cw_unitD 2 (ι := Int × Int) (fun ⟨x83, x85⟩ => []) (fun ⟨x83, x85⟩ => fun w87 => Hp w [] M [rowR 61 b60 [vi y30.2.id, vi y30.2.source, vi y30.2.account, vi y30.2.made, vi x83, vu y30.2.kind, vi x85, vi y30.2.of_], itR r5 b6 c7 es8 xs9 none l31, mapO Ky3 ReportE true b1 x22] w87 ∧ Adv (mm [rowR 61 b60 [vi y30.2.id, vi y30.2.source, vi y30.2.account, vi y30.2.made, vi y30.2.about, vu y30.2.kind, vi y30.2.cents, vi y30.2.of_], itR r5 b6 c7 es8 xs9 none l31, mapO Ky3 ReportE true b1 x22] M) (mm [rowR 61 b60 [vi y30.2.id, vi y30.2.source, vi y30.2.account, vi y30.2.made, vi x83, vu y30.2.kind, vi x85, vi y30.2.of_], itR r5 b6 c7 es8 xs9 none l31, mapO Ky3 ReportE true b1 x22] M) w64 w87 ∧ InK .i64 x83 ∧ InK .i64 x85 ∧ (x83, x85) = j81) ?_ ?_)
    ·refine cw_cond rfl (fun hc90 => ?_) (fun hc90 => ?_)
     ·replace h82 := cdT hc90 h82
      obtain ⟨j91, h92, h82⟩ := bnd h82
      refine cw_keep [6, 0, 1, 3, 4, 5, 18] rfl (cw_unitD 1 (ι := Int × Int) (fun ⟨x93, x95⟩ => []) (fun ⟨x93, x95⟩ => fun w97 => Hp w [] M [rowR 61 b60 [vi y30.2.id, vi y30.2.source, vi y30.2.account, vi y30.2.made, vi x93, vu y30.2.kind, vi x95, vi y30.2.of_], itR r5 b6 c7 es8 xs9 none l31, mapO Ky3 ReportE true b1 x22] w97 ∧ Adv (mm [rowR 61 b60 [vi y30.2.id, vi y30.2.source, vi y30.2.account, vi y30.2.made, vi y30.2.about, vu y30.2.kind, vi y30.2.cents, vi y30.2.of_], itR r5 b6 c7 es8 xs9 none l31, mapO Ky3 ReportE true b1 x22] M) (mm [rowR 61 b60 [vi y30.2.id, vi y30.2.source, vi y30.2.account, vi y30.2.made, vi x93, vu y30.2.kind, vi x95, vi y30.2.of_], itR r5 b6 c7 es8 xs9 none l31, mapO Ky3 ReportE true b1 x22] M) w64 w97 ∧ InK .i64 x93 ∧ InK .i64 x95 ∧ (x93, x95) = j91) ?_ ?_)
      ·refine cw_regSea [0, 1, 2, 3, 4, 5, 9, 12] [6, 7, 8, 10, 11, 13, 14, 15] [] [13, 15] [[13, 0], [13, 1], [13, 2], [13, 4], [13, 5], [13, 12], [15, 0], [15, 1], [15, 2], [15, 4], [15, 5], [15, 12]] [] fol (by kernel_rfl) rfl (by kernel_rfl) rfl rfl ?_
       refine s_fa rfl Tryd.underlying92 rfl Tryd.sizeOf90 rfl (s_fa rfl Tryd.underlying90 rfl Tryd.sizeOf88 rfl (s_ld rfl ((c_d_c.adv hI65.adv).cells.at 0 rfl) Tryd.isAgg88 rfl (s_mv rfl rfl ?_)))
       obtain ⟨y100, hy100, h92⟩ := bnd h92
       refine s_lkF1 (a := y76) (z0 := (Report.mk 0 0 0 0 0 0 0 0)) (f_d_c_0.adv hI65.adv) rfl rfl (show InK .i64 y76 from r80) Tryd.underlying88 Tryd.zeroValue61 ⟨_, ((ReportE_R (x := (Report.mk 0 0 0 0 0 0 0 0))).2 ⟨rfl, (show InK .i64 0 by decide), (show InK .i64 0 by decide), (show InK .i64 0 by decide), (show InK .i64 0 by decide), (show InK .i64 0 by decide), (show InK .u8 0 by decide), (show InK .i64 0 by decide), (show InK .i64 0 by decide)⟩), .inl ⟨rfl, rfl⟩⟩ rfl ?_
       intro v101 hv102
       rw [Option.some.inj hy100] at hv102
       obtain ⟨cs103, hR104, rfl⟩ := Vl.agg hv102
       obtain ⟨rfl, r105, r106, r107, r108, r109, r110, r111, r112⟩ := ReportE_R.1 hR104
       refine s_fd rfl Tryd.underlying61 rfl Tryd.isAgg3 rfl rfl ?_
       refine s_mv rfl rfl (s_fa rfl Tryd.underlying61 rfl Tryd.sizeOf3 rfl (Reg.nilX ⟨rfl, rfl, rfl, ?_⟩))
       intro w113 e114
       have hI115 := (Hp.start (Mu := []) hI65.mlt).ext e114
       obtain ⟨y125, hy125, h92⟩ := bnd h92
       refine SeaWalk.step [6, 13] (by kernel_rfl) (AllL.cons ?_ (AllL.cons ?_ (AllL.nil)))
       ·refine ⟨_, [], rfl, RSub.nil, rfl, nodupB_spec rfl, ?_⟩
        simp only [relOut]
        refine s_fa rfl Tryd.underlying92 rfl Tryd.sizeOf90 rfl (Reg.nil ⟨rfl, .inr hI115.kp, rfl, ?_⟩)
        intro w160 e161
        have hI162 := hI115.ext e161
        refine SeaWalk.step [7, 13] (by kernel_rfl) (AllL.cons ?_ (AllL.cons ?_ (AllL.nil)))
        ·refine ⟨_, [], rfl, RSub.nil, rfl, nodupB_spec rfl, ?_⟩
         simp only [relOut]
         refine s_fa rfl Tryd.underlying90 rfl Tryd.sizeOf88 rfl (Reg.nil ⟨rfl, .inr hI162.kp, rfl, ?_⟩)
         intro w163 e164
         have hI165 := hI162.ext e164
         refine SeaWalk.step [8, 13] (by kernel_rfl) (AllL.cons ?_ (AllL.cons ?_ (AllL.nil)))
         ·refine ⟨_, [], rfl, RSub.nil, rfl, nodupB_spec rfl, ?_⟩
          simp only [relOut]
          refine s_ld rfl ((c_d_c.adv (hI65.adv.trans ((Adv.of_ext e114).trans ((Adv.of_ext e161).trans (Adv.of_ext e164))))).cells.at 0 rfl) Tryd.isAgg88 rfl (Reg.nil ⟨rfl, .inr hI165.kp, rfl, ?_⟩)
          intro w166 e167
          have hI168 := hI165.ext e167
          refine SeaWalk.step [10, 13] (by kernel_rfl) (AllL.cons ?_ (AllL.cons ?_ (AllL.nil)))
          ·refine ⟨_, [], rfl, RSub.nil, rfl, nodupB_spec rfl, ?_⟩
           simp only [relOut]
           refine s_lkF1 (a := y76) (z0 := (Report.mk 0 0 0 0 0 0 0 0)) (f_d_c_0.adv (hI65.adv.trans ((Adv.of_ext e114).trans ((Adv.of_ext e161).trans ((Adv.of_ext e164).trans (Adv.of_ext e167)))))) rfl rfl (show InK .i64 y76 from r80) Tryd.underlying88 Tryd.zeroValue61 ⟨_, ((ReportE_R (x := (Report.mk 0 0 0 0 0 0 0 0))).2 ⟨rfl, (show InK .i64 0 by decide), (show InK .i64 0 by decide), (show InK .i64 0 by decide), (show InK .i64 0 by decide), (show InK .i64 0 by decide), (show InK .u8 0 by decide), (show InK .i64 0 by decide), (show InK .i64 0 by decide)⟩), .inl ⟨rfl, rfl⟩⟩ rfl ?_
           intro v169 hv170
           rw [Option.some.inj hy125] at hv170
           obtain ⟨cs171, hR172, rfl⟩ := Vl.agg hv170
           obtain ⟨rfl, r173, r174, r175, r176, r177, r178, r179, r180⟩ := ReportE_R.1 hR172
           refine Reg.nil ⟨rfl, .inr hI168.kp, rfl, ?_⟩
           intro w181 e182
           have hI183 := hI168.ext e182
           refine SeaWalk.step [11, 13] (by kernel_rfl) (AllL.cons ?_ (AllL.cons ?_ (AllL.nil)))
           ·refine ⟨_, [], rfl, RSub.nil, rfl, nodupB_spec rfl, ?_⟩
            simp only [relOut]
            refine s_fd rfl Tryd.underlying61 rfl Tryd.isAgg3 rfl rfl ?_
            refine Reg.nil ⟨rfl, .inr hI183.kp, rfl, ?_⟩
            intro w184 e185
            have hI186 := hI183.ext e185
            refine SeaWalk.step [13] (by kernel_rfl) (AllL.cons ?_ (AllL.nil))
            refine ⟨_, [], rfl, RSub.nil, rfl, nodupB_spec rfl, ?_⟩
            simp only [relOut]
            have hI187 := hI65.join hI186
            refine y_st 0 hI187 rfl rfl rfl rfl Tryd.sizeOf3 rfl rfl (one1 rfl one0) ?_
            intro w188 hI189 x190
            refine Reg.nil ⟨rfl, .inl rfl, rfl, ?_⟩
            intro w191 e192
            have hI193 := hI189.ext e192
            refine SeaWalk.step [14] (by kernel_rfl) (AllL.cons ?_ (AllL.nil))
            refine ⟨_, [], rfl, RSub.nil, rfl, nodupB_spec rfl, ?_⟩
            simp only [relOut]
            refine s_fa rfl Tryd.underlying61 rfl Tryd.sizeOf3 rfl (Reg.nil ⟨rfl, .inl rfl, rfl, ?_⟩)
            intro w194 e195
            have hI196 := hI193.ext e195
            refine SeaWalk.step [15] (by kernel_rfl) (AllL.cons ?_ (AllL.nil))
            refine ⟨_, [], rfl, RSub.nil, rfl, nodupB_spec rfl, ?_⟩
            simp only [relOut]
            refine y_st 0 hI196 rfl rfl rfl rfl Tryd.sizeOf3 rfl rfl (one1 rfl one0) ?_
            intro w197 hI198 x199
            refine Reg.nil ⟨rfl, .inl rfl, rfl, ?_⟩
            intro w200 e201
            have hI202 := hI198.ext e201
            refine SeaWalk.done ?_
            obtain rfl := Option.some.inj h92
            refine ⟨rfl, (y100.about, y125.cents), ⟨hI202, ((Adv.of_ext e114).trans ((Adv.of_ext e161).trans ((Adv.of_ext e164).trans ((Adv.of_ext e167).trans ((Adv.of_ext e182).trans ((Adv.of_ext e185).trans (x190.trans ((Adv.of_ext e192).trans ((Adv.of_ext e195).trans (x199.trans (Adv.of_ext e201))))))))))), r109, r179, rfl⟩, sb6 rfl rfl rfl rfl rfl rfl⟩
           refine ⟨_, [], rfl, RSub.nil, rfl, nodupB_spec rfl, ?_⟩
           simp only [relOut]
           have hI203 := hI65.join hI183
           refine y_st 0 hI203 rfl rfl rfl rfl Tryd.sizeOf3 rfl rfl (one1 rfl one0) ?_
           intro w204 hI205 x206
           refine Reg.nil ⟨rfl, .inl rfl, rfl, ?_⟩
           intro w207 e208
           have hI209 := hI205.ext e208
           refine SeaWalk.step [11] (by kernel_rfl) (AllL.cons ?_ (AllL.nil))
           refine ⟨_, [], rfl, RSub.nil, rfl, nodupB_spec rfl, ?_⟩
           simp only [relOut]
           refine s_fd rfl Tryd.underlying61 rfl Tryd.isAgg3 rfl rfl ?_
           refine Reg.nil ⟨rfl, .inl rfl, rfl, ?_⟩
           intro w210 e211
           have hI212 := hI209.ext e211
           refine SeaWalk.step [14] (by kernel_rfl) (AllL.cons ?_ (AllL.nil))
           refine ⟨_, [], rfl, RSub.nil, rfl, nodupB_spec rfl, ?_⟩
           simp only [relOut]
           refine s_fa rfl Tryd.underlying61 rfl Tryd.sizeOf3 rfl (Reg.nil ⟨rfl, .inl rfl, rfl, ?_⟩)
           intro w213 e214
           have hI215 := hI212.ext e214
           refine SeaWalk.step [15] (by kernel_rfl) (AllL.cons ?_ (AllL.nil))
           refine ⟨_, [], rfl, RSub.nil, rfl, nodupB_spec rfl, ?_⟩
           simp only [relOut]
           refine y_st 0 hI215 rfl rfl rfl rfl Tryd.sizeOf3 rfl rfl (one1 rfl one0) ?_
           intro w216 hI217 x218
           refine Reg.nil ⟨rfl, .inl rfl, rfl, ?_⟩
           intro w219 e220
           have hI221 := hI217.ext e220
           refine SeaWalk.done ?_
           obtain rfl := Option.some.inj h92
           refine ⟨rfl, (y100.about, y125.cents), ⟨hI221, ((Adv.of_ext e114).trans ((Adv.of_ext e161).trans ((Adv.of_ext e164).trans ((Adv.of_ext e167).trans ((Adv.of_ext e182).trans (x206.trans ((Adv.of_ext e208).trans ((Adv.of_ext e211).trans ((Adv.of_ext e214).trans (x218.trans (Adv.of_ext e220))))))))))), r109, r179, rfl⟩, sb6 rfl rfl rfl rfl rfl rfl⟩
          refine ⟨_, [], rfl, RSub.nil, rfl, nodupB_spec rfl, ?_⟩
          simp only [relOut]
          have hI222 := hI65.join hI168
          refine y_st 0 hI222 rfl rfl rfl rfl Tryd.sizeOf3 rfl rfl (one1 rfl one0) ?_
          intro w223 hI224 x225
          refine Reg.nil ⟨rfl, .inl rfl, rfl, ?_⟩
          intro w226 e227
          have hI228 := hI224.ext e227
          refine SeaWalk.step [10] (by kernel_rfl) (AllL.cons ?_ (AllL.nil))
          refine ⟨_, [], rfl, RSub.nil, rfl, nodupB_spec rfl, ?_⟩
          simp only [relOut]
          refine s_lkF1 (a := y76) (z0 := (Report.mk 0 0 0 0 0 0 0 0)) (f_d_c_0.adv hI228.adv) rfl rfl (show InK .i64 y76 from r80) Tryd.underlying88 Tryd.zeroValue61 ⟨_, ((ReportE_R (x := (Report.mk 0 0 0 0 0 0 0 0))).2 ⟨rfl, (show InK .i64 0 by decide), (show InK .i64 0 by decide), (show InK .i64 0 by decide), (show InK .i64 0 by decide), (show InK .i64 0 by decide), (show InK .u8 0 by decide), (show InK .i64 0 by decide), (show InK .i64 0 by decide)⟩), .inl ⟨rfl, rfl⟩⟩ rfl ?_
          intro v229 hv230
          rw [Option.some.inj hy125] at hv230
          obtain ⟨cs231, hR232, rfl⟩ := Vl.agg hv230
          obtain ⟨rfl, r233, r234, r235, r236, r237, r238, r239, r240⟩ := ReportE_R.1 hR232
          refine Reg.nil ⟨rfl, .inl rfl, rfl, ?_⟩
          intro w241 e242
          have hI243 := hI228.ext e242
          refine SeaWalk.step [11] (by kernel_rfl) (AllL.cons ?_ (AllL.nil))
          refine ⟨_, [], rfl, RSub.nil, rfl, nodupB_spec rfl, ?_⟩
          simp only [relOut]
          refine s_fd rfl Tryd.underlying61 rfl Tryd.isAgg3 rfl rfl ?_
          refine Reg.nil ⟨rfl, .inl rfl, rfl, ?_⟩
          intro w244 e245
          have hI246 := hI243.ext e245
          refine SeaWalk.step [14] (by kernel_rfl) (AllL.cons ?_ (AllL.nil))
          refine ⟨_, [], rfl, RSub.nil, rfl, nodupB_spec rfl, ?_⟩
          simp only [relOut]
          refine s_fa rfl Tryd.underlying61 rfl Tryd.sizeOf3 rfl (Reg.nil ⟨rfl, .inl rfl, rfl, ?_⟩)
          intro w247 e248
          have hI249 := hI246.ext e248
          refine SeaWalk.step [15] (by kernel_rfl) (AllL.cons ?_ (AllL.nil))
          refine ⟨_, [], rfl, RSub.nil, rfl, nodupB_spec rfl, ?_⟩
          simp only [relOut]
          refine y_st 0 hI249 rfl rfl rfl rfl Tryd.sizeOf3 rfl rfl (one1 rfl one0) ?_
          intro w250 hI251 x252
          refine Reg.nil ⟨rfl, .inl rfl, rfl, ?_⟩
          intro w253 e254
          have hI255 := hI251.ext e254
          refine SeaWalk.done ?_
          obtain rfl := Option.some.inj h92
          refine ⟨rfl, (y100.about, y125.cents), ⟨hI255, ((Adv.of_ext e114).trans ((Adv.of_ext e161).trans ((Adv.of_ext e164).trans ((Adv.of_ext e167).trans (x225.trans ((Adv.of_ext e227).trans ((Adv.of_ext e242).trans ((Adv.of_ext e245).trans ((Adv.of_ext e248).trans (x252.trans (Adv.of_ext e254))))))))))), r109, r239, rfl⟩, sb6 rfl rfl rfl rfl rfl rfl⟩
         refine ⟨_, [], rfl, RSub.nil, rfl, nodupB_spec rfl, ?_⟩
         simp only [relOut]
         have hI256 := hI65.join hI165
         refine y_st 0 hI256 rfl rfl rfl rfl Tryd.sizeOf3 rfl rfl (one1 rfl one0) ?_
         intro w257 hI258 x259
         refine Reg.nil ⟨rfl, .inl rfl, rfl, ?_⟩
         intro w260 e261
         have hI262 := hI258.ext e261
         refine SeaWalk.step [8] (by kernel_rfl) (AllL.cons ?_ (AllL.nil))
         refine ⟨_, [], rfl, RSub.nil, rfl, nodupB_spec rfl, ?_⟩
         simp only [relOut]
         refine s_ld rfl ((c_d_c.adv hI262.adv).cells.at 0 rfl) Tryd.isAgg88 rfl (Reg.nil ⟨rfl, .inl rfl, rfl, ?_⟩)
         intro w263 e264
         have hI265 := hI262.ext e264
         refine SeaWalk.step [10] (by kernel_rfl) (AllL.cons ?_ (AllL.nil))
         refine ⟨_, [], rfl, RSub.nil, rfl, nodupB_spec rfl, ?_⟩
         simp only [relOut]
         refine s_lkF1 (a := y76) (z0 := (Report.mk 0 0 0 0 0 0 0 0)) (f_d_c_0.adv hI265.adv) rfl rfl (show InK .i64 y76 from r80) Tryd.underlying88 Tryd.zeroValue61 ⟨_, ((ReportE_R (x := (Report.mk 0 0 0 0 0 0 0 0))).2 ⟨rfl, (show InK .i64 0 by decide), (show InK .i64 0 by decide), (show InK .i64 0 by decide), (show InK .i64 0 by decide), (show InK .i64 0 by decide), (show InK .u8 0 by decide), (show InK .i64 0 by decide), (show InK .i64 0 by decide)⟩), .inl ⟨rfl, rfl⟩⟩ rfl ?_
         intro v266 hv267
         rw [Option.some.inj hy125] at hv267
         obtain ⟨cs268, hR269, rfl⟩ := Vl.agg hv267
         obtain ⟨rfl, r270, r271, r272, r273, r274, r275, r276, r277⟩ := ReportE_R.1 hR269
         refine Reg.nil ⟨rfl, .inl rfl, rfl, ?_⟩
         intro w278 e279
         have hI280 := hI265.ext e279
         refine SeaWalk.step [11] (by kernel_rfl) (AllL.cons ?_ (AllL.nil))
         refine ⟨_, [], rfl, RSub.nil, rfl, nodupB_spec rfl, ?_⟩
         simp only [relOut]
         refine s_fd rfl Tryd.underlying61 rfl Tryd.isAgg3 rfl rfl ?_
         refine Reg.nil ⟨rfl, .inl rfl, rfl, ?_⟩
         intro w281 e282
         have hI283 := hI280.ext e282
         refine SeaWalk.step [14] (by kernel_rfl) (AllL.cons ?_ (AllL.nil))
         refine ⟨_, [], rfl, RSub.nil, rfl, nodupB_spec rfl, ?_⟩
         simp only [relOut]
         refine s_fa rfl Tryd.underlying61 rfl Tryd.sizeOf3 rfl (Reg.nil ⟨rfl, .inl rfl, rfl, ?_⟩)
         intro w284 e285
         have hI286 := hI283.ext e285
         refine SeaWalk.step [15] (by kernel_rfl) (AllL.cons ?_ (AllL.nil))
         refine ⟨_, [], rfl, RSub.nil, rfl, nodupB_spec rfl, ?_⟩
         simp only [relOut]
         refine y_st 0 hI286 rfl rfl rfl rfl Tryd.sizeOf3 rfl rfl (one1 rfl one0) ?_
         intro w287 hI288 x289
         refine Reg.nil ⟨rfl, .inl rfl, rfl, ?_⟩
         intro w290 e291
         have hI292 := hI288.ext e291
         refine SeaWalk.done ?_
         obtain rfl := Option.some.inj h92
         refine ⟨rfl, (y100.about, y125.cents), ⟨hI292, ((Adv.of_ext e114).trans ((Adv.of_ext e161).trans ((Adv.of_ext e164).trans (x259.trans ((Adv.of_ext e261).trans ((Adv.of_ext e264).trans ((Adv.of_ext e279).trans ((Adv.of_ext e282).trans ((Adv.of_ext e285).trans (x289.trans (Adv.of_ext e291))))))))))), r109, r276, rfl⟩, sb6 rfl rfl rfl rfl rfl rfl⟩
        refine ⟨_, [], rfl, RSub.nil, rfl, nodupB_spec rfl, ?_⟩
        simp only [relOut]
        have hI293 := hI65.join hI162
        refine y_st 0 hI293 rfl rfl rfl rfl Tryd.sizeOf3 rfl rfl (one1 rfl one0) ?_
        intro w294 hI295 x296
        refine Reg.nil ⟨rfl, .inl rfl, rfl, ?_⟩
        intro w297 e298
        have hI299 := hI295.ext e298
        refine SeaWalk.step [7] (by kernel_rfl) (AllL.cons ?_ (AllL.nil))
        refine ⟨_, [], rfl, RSub.nil, rfl, nodupB_spec rfl, ?_⟩
        simp only [relOut]
        refine s_fa rfl Tryd.underlying90 rfl Tryd.sizeOf88 rfl (Reg.nil ⟨rfl, .inl rfl, rfl, ?_⟩)
        intro w300 e301
        have hI302 := hI299.ext e301
        refine SeaWalk.step [8] (by kernel_rfl) (AllL.cons ?_ (AllL.nil))
        refine ⟨_, [], rfl, RSub.nil, rfl, nodupB_spec rfl, ?_⟩
        simp only [relOut]
        refine s_ld rfl ((c_d_c.adv hI302.adv).cells.at 0 rfl) Tryd.isAgg88 rfl (Reg.nil ⟨rfl, .inl rfl, rfl, ?_⟩)
        intro w303 e304
        have hI305 := hI302.ext e304
        refine SeaWalk.step [10] (by kernel_rfl) (AllL.cons ?_ (AllL.nil))
        refine ⟨_, [], rfl, RSub.nil, rfl, nodupB_spec rfl, ?_⟩
        simp only [relOut]
        refine s_lkF1 (a := y76) (z0 := (Report.mk 0 0 0 0 0 0 0 0)) (f_d_c_0.adv hI305.adv) rfl rfl (show InK .i64 y76 from r80) Tryd.underlying88 Tryd.zeroValue61 ⟨_, ((ReportE_R (x := (Report.mk 0 0 0 0 0 0 0 0))).2 ⟨rfl, (show InK .i64 0 by decide), (show InK .i64 0 by decide), (show InK .i64 0 by decide), (show InK .i64 0 by decide), (show InK .i64 0 by decide), (show InK .u8 0 by decide), (show InK .i64 0 by decide), (show InK .i64 0 by decide)⟩), .inl ⟨rfl, rfl⟩⟩ rfl ?_
        intro v306 hv307
        rw [Option.some.inj hy125] at hv307
        obtain ⟨cs308, hR309, rfl⟩ := Vl.agg hv307
        obtain ⟨rfl, r310, r311, r312, r313, r314, r315, r316, r317⟩ := ReportE_R.1 hR309
        refine Reg.nil ⟨rfl, .inl rfl, rfl, ?_⟩
        intro w318 e319
        have hI320 := hI305.ext e319
        refine SeaWalk.step [11] (by kernel_rfl) (AllL.cons ?_ (AllL.nil))
        refine ⟨_, [], rfl, RSub.nil, rfl, nodupB_spec rfl, ?_⟩
        simp only [relOut]
        refine s_fd rfl Tryd.underlying61 rfl Tryd.isAgg3 rfl rfl ?_
        refine Reg.nil ⟨rfl, .inl rfl, rfl, ?_⟩
        intro w321 e322
        have hI323 := hI320.ext e322
        refine SeaWalk.step [14] (by kernel_rfl) (AllL.cons ?_ (AllL.nil))
        refine ⟨_, [], rfl, RSub.nil, rfl, nodupB_spec rfl, ?_⟩
        simp only [relOut]
        refine s_fa rfl Tryd.underlying61 rfl Tryd.sizeOf3 rfl (Reg.nil ⟨rfl, .inl rfl, rfl, ?_⟩)
        intro w324 e325
        have hI326 := hI323.ext e325
        refine SeaWalk.step [15] (by kernel_rfl) (AllL.cons ?_ (AllL.nil))
        refine ⟨_, [], rfl, RSub.nil, rfl, nodupB_spec rfl, ?_⟩
        simp only [relOut]
        refine y_st 0 hI326 rfl rfl rfl rfl Tryd.sizeOf3 rfl rfl (one1 rfl one0) ?_
        intro w327 hI328 x329
        refine Reg.nil ⟨rfl, .inl rfl, rfl, ?_⟩
        intro w330 e331
        have hI332 := hI328.ext e331
        refine SeaWalk.done ?_
        obtain rfl := Option.some.inj h92
        refine ⟨rfl, (y100.about, y125.cents), ⟨hI332, ((Adv.of_ext e114).trans ((Adv.of_ext e161).trans (x296.trans ((Adv.of_ext e298).trans ((Adv.of_ext e301).trans ((Adv.of_ext e304).trans ((Adv.of_ext e319).trans ((Adv.of_ext e322).trans ((Adv.of_ext e325).trans (x329.trans (Adv.of_ext e331))))))))))), r109, r316, rfl⟩, sb6 rfl rfl rfl rfl rfl rfl⟩
       refine ⟨_, [], rfl, RSub.nil, rfl, nodupB_spec rfl, ?_⟩
       simp only [relOut]
       have hI333 := hI65.join hI115
       refine y_st 0 hI333 rfl rfl rfl rfl Tryd.sizeOf3 rfl rfl (one1 rfl one0) ?_
       intro w334 hI335 x336
       refine Reg.nil ⟨rfl, .inl rfl, rfl, ?_⟩
       intro w337 e338
       have hI339 := hI335.ext e338
       refine SeaWalk.step [6] (by kernel_rfl) (AllL.cons ?_ (AllL.nil))
       refine ⟨_, [], rfl, RSub.nil, rfl, nodupB_spec rfl, ?_⟩
       simp only [relOut]
       refine s_fa rfl Tryd.underlying92 rfl Tryd.sizeOf90 rfl (Reg.nil ⟨rfl, .inl rfl, rfl, ?_⟩)
       intro w340 e341
       have hI342 := hI339.ext e341
       refine SeaWalk.step [7] (by kernel_rfl) (AllL.cons ?_ (AllL.nil))
       refine ⟨_, [], rfl, RSub.nil, rfl, nodupB_spec rfl, ?_⟩
       simp only [relOut]
       refine s_fa rfl Tryd.underlying90 rfl Tryd.sizeOf88 rfl (Reg.nil ⟨rfl, .inl rfl, rfl, ?_⟩)
       intro w343 e344
       have hI345 := hI342.ext e344
       refine SeaWalk.step [8] (by kernel_rfl) (AllL.cons ?_ (AllL.nil))
       refine ⟨_, [], rfl, RSub.nil, rfl, nodupB_spec rfl, ?_⟩
       simp only [relOut]
       refine s_ld rfl ((c_d_c.adv hI345.adv).cells.at 0 rfl) Tryd.isAgg88 rfl (Reg.nil ⟨rfl, .inl rfl, rfl, ?_⟩)
       intro w346 e347
       have hI348 := hI345.ext e347
       refine SeaWalk.step [10] (by kernel_rfl) (AllL.cons ?_ (AllL.nil))
       refine ⟨_, [], rfl, RSub.nil, rfl, nodupB_spec rfl, ?_⟩
       simp only [relOut]
       refine s_lkF1 (a := y76) (z0 := (Report.mk 0 0 0 0 0 0 0 0)) (f_d_c_0.adv hI348.adv) rfl rfl (show InK .i64 y76 from r80) Tryd.underlying88 Tryd.zeroValue61 ⟨_, ((ReportE_R (x := (Report.mk 0 0 0 0 0 0 0 0))).2 ⟨rfl, (show InK .i64 0 by decide), (show InK .i64 0 by decide), (show InK .i64 0 by decide), (show InK .i64 0 by decide), (show InK .i64 0 by decide), (show InK .u8 0 by decide), (show InK .i64 0 by decide), (show InK .i64 0 by decide)⟩), .inl ⟨rfl, rfl⟩⟩ rfl ?_
       intro v349 hv350
       rw [Option.some.inj hy125] at hv350
       obtain ⟨cs351, hR352, rfl⟩ := Vl.agg hv350
       obtain ⟨rfl, r353, r354, r355, r356, r357, r358, r359, r360⟩ := ReportE_R.1 hR352
       refine Reg.nil ⟨rfl, .inl rfl, rfl, ?_⟩
       intro w361 e362
       have hI363 := hI348.ext e362
       refine SeaWalk.step [11] (by kernel_rfl) (AllL.cons ?_ (AllL.nil))
       refine ⟨_, [], rfl, RSub.nil, rfl, nodupB_spec rfl, ?_⟩
       simp only [relOut]
       refine s_fd rfl Tryd.underlying61 rfl Tryd.isAgg3 rfl rfl ?_
       refine Reg.nil ⟨rfl, .inl rfl, rfl, ?_⟩
       intro w364 e365
       have hI366 := hI363.ext e365
       refine SeaWalk.step [14] (by kernel_rfl) (AllL.cons ?_ (AllL.nil))
       refine ⟨_, [], rfl, RSub.nil, rfl, nodupB_spec rfl, ?_⟩
       simp only [relOut]
       refine s_fa rfl Tryd.underlying61 rfl Tryd.sizeOf3 rfl (Reg.nil ⟨rfl, .inl rfl, rfl, ?_⟩)
       intro w367 e368
       have hI369 := hI366.ext e368
       refine SeaWalk.step [15] (by kernel_rfl) (AllL.cons ?_ (AllL.nil))
       refine ⟨_, [], rfl, RSub.nil, rfl, nodupB_spec rfl, ?_⟩
       simp only [relOut]
       refine y_st 0 hI369 rfl rfl rfl rfl Tryd.sizeOf3 rfl rfl (one1 rfl one0) ?_
       intro w370 hI371 x372
       refine Reg.nil ⟨rfl, .inl rfl, rfl, ?_⟩
       intro w373 e374
       have hI375 := hI371.ext e374
       refine SeaWalk.done ?_
       obtain rfl := Option.some.inj h92
       refine ⟨rfl, (y100.about, y125.cents), ⟨hI375, ((Adv.of_ext e114).trans (x336.trans ((Adv.of_ext e338).trans ((Adv.of_ext e341).trans ((Adv.of_ext e344).trans ((Adv.of_ext e347).trans ((Adv.of_ext e362).trans ((Adv.of_ext e365).trans ((Adv.of_ext e368).trans (x372.trans (Adv.of_ext e374))))))))))), r109, r359, rfl⟩, sb6 rfl rfl rfl rfl rfl rfl⟩
      rintro ⟨x93, x95⟩ w97 ⟨hI98, hA99, r94, r96, rfl⟩
      obtain rfl := Option.some.inj h82
      refine ⟨rfl, (x93, x95), ⟨hI98, hA99, r94, r96, rfl⟩, sb6 rfl rfl rfl rfl rfl rfl⟩
     replace h82 := cdF hc90 h82
     refine cw_skip ?_
     obtain rfl := Option.some.inj h82
     refine ⟨rfl, (y30.2.about, y30.2.cents), ⟨hI65, (Adv.refl _ _), r55, r57, rfl⟩, sb6 rfl rfl rfl rfl rfl rfl⟩
    rintro ⟨x83, x85⟩ w87 ⟨hI88, hA89, r84, r86, rfl⟩
    obtain rfl := Option.some.inj h68
    refine ⟨rfl, (x83, x85), ⟨hI88, hA89, r84, r86, rfl⟩, sb6 rfl rfl rfl rfl rfl rfl⟩
   rintro ⟨x69, x71⟩ w73 ⟨hI74, hA75, r70, r72, rfl⟩
   refine cw_seq (cw_regF (s_lda rfl (hI74.row 0 rfl).rd.cells Tryd.isAgg61 rfl Tryd.sizeOf61 rfl ?_))
   obtain ⟨z376, hz377, h41⟩ := bnd h41
   refine s_call rfl Tryd.call43 rfl ((C_account_fact (r := (Report.mk y30.2.id y30.2.source y30.2.account y30.2.made x69 y30.2.kind x71 y30.2.of_)) hI74.mlt r51 r52 r53 r54 r70 r56 r72 r58 hz377).mono ?_)
   rintro _ w378 ⟨rfl, e379⟩
   refine ⟨_, rfl, ?_⟩
   have hI380 := hI74.ext e379
   refine Reg.nil ?_
   obtain ⟨j381, h382, h41⟩ := bnd h41
   refine cw_keep [4, 5, 47, 0, 1, 3, 18] rfl (cw_unitD 3 (ι := (FMap Int Report)) (fun x383 => []) (fun x383 => fun w384 => Hp w [] M [rowR 61 b60 [vi y30.2.id, vi y30.2.source, vi y30.2.account, vi y30.2.made, vi x69, vu y30.2.kind, vi x71, vi y30.2.of_], itR r5 b6 c7 es8 xs9 none l31, mapO Ky3 ReportE true b1 x383] w384 ∧ Adv (mm [rowR 61 b60 [vi y30.2.id, vi y30.2.source, vi y30.2.account, vi y30.2.made, vi x69, vu y30.2.kind, vi x71, vi y30.2.of_], itR r5 b6 c7 es8 xs9 none l31, mapO Ky3 ReportE true b1 x22] M) (mm [rowR 61 b60 [vi y30.2.id, vi y30.2.source, vi y30.2.account, vi y30.2.made, vi x69, vu y30.2.kind, vi x71, vi y30.2.of_], itR r5 b6 c7 es8 xs9 none l31, mapO Ky3 ReportE true b1 x383] M) w378 w384 ∧ x383 = j381) ?_ ?_)
   ·refine cw_cond rfl (fun hc387 => ?_) (fun hc387 => ?_)
    ·replace h382 := cdT hc387 h382
     refine cw_regF (s_mv rfl rfl (s_mv rfl rfl (s_lda rfl (hI380.row 0 rfl).rd.cells Tryd.isAgg61 rfl Tryd.sizeOf61 rfl (y_upF 2 (a := y30.1) (z := (Report.mk y30.2.id y30.2.source y30.2.account y30.2.made x69 y30.2.kind x71 y30.2.of_)) hI380 rfl rfl rfl (show InK .i64 y30.1 from (show InK .i64 y30.1 from hk47)) rfl ⟨_, ((ReportE_R (x := (Report.mk y30.2.id y30.2.source y30.2.account y30.2.made x69 y30.2.kind x71 y30.2.of_))).2 ⟨rfl, r51, r52, r53, r54, r70, r56, r72, r58⟩), .inl ⟨rfl, rfl⟩⟩ Tryd.underlying88 ?_))))
     intro w388 hI389 x390
     refine Reg.nil ?_
     obtain rfl := Option.some.inj h382
     refine ⟨rfl, (fput x22 y30.1 (Report.mk y30.2.id y30.2.source y30.2.account y30.2.made x69 y30.2.kind x71 y30.2.of_)), ⟨hI389, x390, rfl⟩, sb4 rfl rfl rfl rfl⟩
    replace h382 := cdF hc387 h382
    refine cw_skip ?_
    obtain rfl := Option.some.inj h382
    refine ⟨rfl, x22, ⟨hI380, (Adv.refl _ _), rfl⟩, sb4 rfl rfl rfl rfl⟩
   rintro x383 w384 ⟨hI385, hA386, rfl⟩
   obtain rfl := Option.some.inj h41
   refine ⟨rfl, x383, ⟨(hI385.sel [1, 2] rfl), (((Hp.itOffA (σ := [itR r5 b6 c7 es8 xs9 (some y30) l31, mapO Ky3 ReportE true b1 x22]) (M := M) 0 rfl).trans (x63.trans (x66.trans (hA75.trans ((Adv.of_ext e379).trans hA386))))).trans (Hp.selA (σ := [rowR 61 b60 [vi y30.2.id, vi y30.2.source, vi y30.2.account, vi y30.2.made, vi x69, vu y30.2.kind, vi x71, vi y30.2.of_], itR r5 b6 c7 es8 xs9 none l31, mapO Ky3 ReportE true b1 x383]) [1, 2])), rfl⟩, sb4 rfl rfl rfl rfl⟩
  rintro x42 w43 ⟨hI44, hA45, rfl⟩
  obtain rfl := Option.some.inj hB38
  refine ⟨rfl, x42, y30, l31, ⟨hp35, zhB38, ⟨hI44, (hA25.trans (x37.trans hA45))⟩⟩, sb4 rfl rfl rfl rfl⟩
 rintro x17 w18 ⟨hI19, hA20, rfl⟩
 refine cw_seq (cw_seq (cw_regF (s_fa rfl Tryd.underlying92 rfl Tryd.sizeOf79 rfl (s_ld rfl ((c_d_c.adv hI19.adv).cells.at 1 rfl) Tryd.isAgg79 rfl (y_rg hI19 (f_d_c_1.adv hI19.adv) rfl Tryd.underlying79 rfl ?_)))))
 intro r391 b392 c393 es394 xs395 w396 hX397 hL398 hI399 x400
 refine Reg.nil ?_
 obtain ⟨j401, h402, h⟩ := bnd h
 refine cw_keep [53, 0, 3] rfl (cw_unitD 1 (ι := (FMap Int Report)) (fun x403 => []) (fun x403 => fun w404 => Hp w [] M [mapO Ky3 ReportE true b1 x403] w404 ∧ Adv (mm [itR r391 b392 c393 es394 xs395 none xs395, mapO Ky3 ReportE true b1 x17] M) (mm [mapO Ky3 ReportE true b1 x403] M) w396 w404 ∧ x403 = j401) ?_ ?_)
 ·refine cw_block (cw_keep [0, 3, 53] rfl (cw_loopA 0 (ι := (FMap Int Report)) _ (fun x408 => []) (fun x408 => x408) (fun x408 => fun l407 w409 => Hp w [] M [itR r391 b392 c393 es394 xs395 none l407, mapO Ky3 ReportE true b1 x408] w409 ∧ Adv (mm [itR r391 b392 c393 es394 xs395 none xs395, mapO Ky3 ReportE true b1 x17] M) (mm [itR r391 b392 c393 es394 xs395 none l407, mapO Ky3 ReportE true b1 x408] M) w396 w409) x17 xs395 (anyM_out h402 hL398) ⟨hI399, (Adv.refl _ _)⟩ (sb3 rfl rfl rfl) ?_))
  rintro x408 l407 w409 ⟨hI410, hA411⟩ h413 hR414
  refine cw_seq (cw_regF (y_nx 0 hI410 (hX397.adv (x400.trans hA411)) rfl rfl rfl (fun hn415 => ?_) ?_))
  ·obtain rfl := h413 hn415
   have hI425 := hI410.erase 0
   refine s_xt rfl rfl rfl (Reg.nil (cw_seq (cw_condF rfl ?_)))
   refine cw_exit (exB_same ?_)
   refine ⟨rfl, x408, ⟨hI425, (hA411.trans (hI410.eraseH 0)), rfl⟩, sb2 rfl rfl⟩
  intro y416 l417 k418 v419 w420 hp421 hI422 x423
  obtain ⟨shB424, hB424⟩ := hR414 y416 l417 hp421
  have zhB424 := hB424
  refine s_xt rfl rfl rfl (Reg.nil (cw_seq (cw_condT rfl ?_)))
  refine cw_skip (cw_block (cw_seq (cw_regF (y_en 0 hI422 (hX397.adv (x400.trans (hA411.trans x423))) rfl rfl rfl ?_))))
  intro v426 hk427 hv428
  have hR429 := Vl.one1 hv428
  obtain ⟨r430', r430⟩ := hR429
  obtain rfl := one_inj r430'
  have hI431 := hI422.itOff 0 rfl
  refine s_xt rfl rfl rfl (s_as rfl rfl (Reg.nil (cw_regF (s_mv rfl rfl (s_mv rfl rfl (y_dlF 1 (a := y416.1) hI431 rfl rfl rfl (show InK .i64 y416.1 from (show InK .i64 y416.1 from hk427)) Tryd.underlying88 ?_))))))
  intro w432 hI433 x434
  refine Reg.nil ?_
  obtain rfl := Option.some.inj hB424
  refine ⟨rfl, (fdel x408 y416.1), y416, l417, ⟨hp421, zhB424, ⟨hI433, (hA411.trans (x423.trans ((Hp.itOffA (σ := [itR r391 b392 c393 es394 xs395 (some y416) l417, mapO Ky3 ReportE true b1 x408]) (M := M) 0 rfl).trans x434)))⟩⟩, sb3 rfl rfl rfl⟩
 rintro x403 w404 ⟨hI405, hA406, rfl⟩
 refine cw_seq (cw_regF (s_as rfl rfl (Reg.nil (cw_seq (cw_seq (cw_regF (s_mv rfl rfl ?_)))))))
 have hf435 := hI405.freezeM 0 rfl
 have hI436 := hI405.erase 0
 refine y_rg hI436 hf435 rfl Tryd.underlying88 rfl ?_
 intro r437 b438 c439 es440 xs441 w442 hX443 hL444 hI445 x446
 refine Reg.nil ?_
 obtain ⟨B449, hB449, kB449⟩ := anyK_out h hL444
 refine cw_keep [9, 61, 0] rfl (cw_unitD 2 (ι := (List Report) × Value) (fun ⟨x450, v451⟩ => [(9, v451)]) (fun ⟨x450, v451⟩ => fun w452 => Hp w [] M [ownR [] ReportE 61 v451 x450] w452 ∧ Adv (mm [itR r437 b438 c439 es440 xs441 none xs441] M) (mm [ownR [] ReportE 61 v451 x450] M) w442 w452 ∧ ∃ d_ : List _, List.Perm d_ xs441 ∧ List.foldlM B449 [] d_ = some x450) ?_ ?_)
 ·refine cw_block (cw_keep [9, 0, 61] rfl ?_)
  have hI461 := hI445.addNil ReportE 61
  refine cw_loopK 1 (ι := (List Report) × Value) B449 (fun ⟨x456, v457⟩ => [(9, v457)]) (fun ⟨x456, v457⟩ => x456) (fun ⟨x456, v457⟩ => fun l455 w458 => Hp w [] M [ownR [] ReportE 61 v457 x456, itR r437 b438 c439 es440 xs441 none l455] w458 ∧ Adv (mm [itR r437 b438 c439 es440 xs441 none xs441] M) (mm [ownR [] ReportE 61 v457 x456, itR r437 b438 c439 es440 xs441 none l455] M) w442 w458) (([] : List Report), (vn)) xs441 (fun l_ hl_ => (kB449 l_ hl_).imp fun _ h_ => h_.1) ⟨hI461, (hI445.addNilH ReportE 61)⟩ (sb3 rfl rfl rfl) ?_
  rintro ⟨x456, v457⟩ l455 w458 ⟨hI459, hA460⟩ h463 hR464
  refine cw_seq (cw_regF (y_nx 1 hI459 (hX443.adv (x446.trans hA460)) rfl rfl rfl (fun hn465 => ?_) ?_))
  ·have hend_ := h463 hn465
   have hI475 := hI459.erase 1
   refine s_xt rfl rfl rfl (Reg.nil (cw_seq (cw_condF rfl ?_)))
   refine cw_exit (exB_same ?_)
   refine ⟨rfl, (x456, v457), ⟨hI475, (hA460.trans (hI459.eraseH 1)), hend_⟩, sb2 rfl rfl⟩
  intro y466 l467 k468 v469 w470 hp471 hI472 x473
  obtain ⟨shB474, hB474⟩ := hR464 y466 l467 hp471
  have zhB474 := hB474
  rw [hB449] at hB474
  refine s_xt rfl rfl rfl (Reg.nil (cw_seq (cw_condT rfl ?_)))
  refine cw_skip (cw_block (cw_seq (cw_regF (y_en 1 hI472 (hX443.adv (x446.trans (hA460.trans x473))) rfl rfl rfl ?_))))
  intro v476 hk477 hv478
  obtain ⟨cs479, hR480, rfl⟩ := Vl.agg hv478
  obtain ⟨rfl, r481, r482, r483, r484, r485, r486, r487, r488⟩ := ReportE_R.1 hR480
  have hI489 := hI472.itOff 1 rfl
  refine s_xt rfl rfl rfl (y_al hI489 Tryd.zeroValue61 rfl rfl ?_)
  intro b490 w491 hI492 x493
  refine y_st 0 hI492 rfl rfl rfl rfl Tryd.sizeOf61 rfl rfl (on8 rfl rfl rfl rfl rfl rfl rfl rfl) ?_
  intro w494 hI495 x496
  have hC498 := hI495.freezeRow 0 rfl
  have hI497 := hI495.erase 0
  refine Reg.nil (cw_regF (s_mv rfl rfl (s_lda rfl hC498.cells Tryd.isAgg61 rfl Tryd.sizeOf61 rfl (y_bs (E := ReportE) (xs := [(Report.mk y466.2.id y466.2.source y466.2.account y466.2.made y466.2.about y466.2.kind y466.2.cents y466.2.of_)]) sl22 hI497 rfl rfl (Cls.cons rfl Cls.nil) (Chs.cons ((ReportE_R (x := (Report.mk y466.2.id y466.2.source y466.2.account y466.2.made y466.2.about y466.2.kind y466.2.cents y466.2.of_))).2 ⟨rfl, r481, r482, r483, r484, r485, r486, r487, r488⟩) Chs.nil) rfl rfl ?_))))
  intro v499 w500 hI501 x502
  have hf503 := hI501.freeze 0 rfl
  have hI504 := hI501.erase 0
  obtain ⟨l505, hl505, hB474⟩ := bnd hB474
  obtain ⟨hbl505, el505⟩ := appo_out hl505
  refine y_app 0 sl22 hI504 rfl rfl rfl hf503 hbl505 rfl ?_
  rw [← el505]
  intro v506 w507 hI508 x509
  refine s_as rfl rfl (Reg.nil ?_)
  obtain rfl := Option.some.inj hB474
  refine ⟨rfl, (l505, v506), y466, l467, ⟨hp471, zhB474, ⟨hI508, (hA460.trans (x473.trans ((Hp.itOffA (σ := [ownR [] ReportE 61 v457 x456, itR r437 b438 c439 es440 xs441 (some y466) l467]) (M := M) 1 rfl).trans (x493.trans (x496.trans ((hI495.eraseH 0).trans (x502.trans ((hI501.eraseH 0).trans x509))))))))⟩⟩, sb3 rfl rfl rfl⟩
 rintro ⟨x450, v451⟩ w452 ⟨hI453, hA454, ⟨d_, hdp_, hdf_⟩⟩
 obtain ⟨s9_, hs9_, h⟩ := kB449 d_ hdp_
 obtain rfl := Option.some.inj (hdf_.symm.trans hs9_)
 refine cw_seq (cw_regF (s_mv rfl rfl (y_bs (E := fnE) (xs := [75, 76]) sl145 hI453 rfl rfl (Cls.cons rfl (Cls.cons rfl Cls.nil)) (Chs.cons rfl (Chs.cons rfl Chs.nil)) rfl rfl ?_)))
 intro v510 w511 hI512 x513
 have hf514 := hI512.freeze 0 rfl
 have hI515 := hI512.erase 0
 obtain ⟨z516, hz517, h⟩ := bnd h
 refine s_call rfl Tryd.call74 rfl ((C_account_ordered_74 (hI515.erase 0).mlt (hI515.apart 0 rfl) (hI515.lendOwn 0 rfl) (hf514.adv (hI515.lendH 0 rfl)) hz517).mono ?_)
 rintro _ w518 ⟨v520, rfl, hf521⟩
 refine ⟨_, rfl, ?_⟩
 have hI522 := hI515.took 0 rfl hf521
 refine s_lenO rfl (hI522.ownAt 0 rfl) Tryd.underlying22 rfl ?_
 refine s_mv rfl rfl (Reg.nil ?_)
 obtain rfl := Option.some.inj h
 have hge_ : ∀ b ∈ ob v520, w.heap.size ≤ b := fun b hb => ((hI522.own _ (List.mem_of_getElem? (i := 0) rfl)).2 b hb).resolve_left (fun h => by cases h)
 have hf523 := hI522.freeze 0 rfl
 have hI524 := hI522.erase 0
 refine cw_block ?_
 have hgB : ∀ g, gOf w518 b2 = some g → g < w.heap.size := fun g hg => (KB.of_ext hI524.kp hb2).gof g hg |>.elim (hg2 g) fun h => by
  have h5 : gOf w b2 = some g := by
   unfold gOf at hg ⊢
   rw [World.cell?_of_block (a := ⟨b2, 0, none⟩) (w := w) (hI524.kp.block b2 hb2 (by simp))] at hg
   exact hg
  exact hg2 g h5
 have hlen_ := RdS.inK hf523
 refine cw_keep [74, 72, 73, 0] rfl ?_
 refine cw_loopD 1 (ι := Nat) (fun i => [(74, .int .i64 i)]) (fun i W_ => i ≤ z516.length ∧ J (z516.take i) W_ ∧ KB b2 w518 W_) (fun i => z516.length - i) 0 ⟨Nat.zero_le _, hJ _ _ _ none h0 (Ext.grownBy hI524.kp) (fun r hr => by cases hr), KB.refl _ _⟩ (sb4 rfl rfl rfl rfl) (fun i W_ hW_ => ?_)
 obtain ⟨hi, hJi, hKi⟩ := hW_
 refine cw_seq (cw_regF (s_lss rfl rfl rfl (Reg.nil (cw_seq (cw_cond rfl (fun hc => ?_) (fun hc => ?_))))))
 ·have hlt : i < z516.length := by have := of_decide_eq_true hc; omega
  refine cw_skip (cw_seq (cw_block ?_))
  obtain ⟨b, o, c, cs, hv, hbM, hbl, hR, hC⟩ := hf523.at i hlt
  obtain ⟨rfl, r0_, r1_, r2_, r3_, r4_, r5_, r6_, r7_⟩ := ReportE_R.1 hR
  obtain ⟨_, _, hs_, hle_, _⟩ := (hf523).shape
  rw [hv] at hs_
  cases hs_
  obtain ⟨c9, rfl⟩ : ∃ c9, c = c9 + 1 := ⟨c - 1, by omega⟩
  have hbw : w.heap.size ≤ b := hge_ b (by rw [hv]; simp [ob])
  have hb2' : b ≠ b2 := by omega
  have hbg : gOf w518 b2 ≠ some b := fun e => by have := hgB b e; omega
  have hCi : Cells W_ b (o + i * 8) (encR z516[i]) := fun j u hj => hKi.cell b _ u hb2' hbg (hC j u hj)
  refine cw_seq (cw_regF (Reg.val (.pointer (some ⟨b, o + i * 8, none⟩)) rfl rfl rfl (fun a ha w9 _ => ?_) ?_))
  ·have hx : ev [(73, vi (z516.length : Int)), (0, Value.func (.func 0) #[] #[])] (.tmp 73) = some (.int .i64 (z516.length : Int)) := rfl
   have h1 := ha.eval (x := .tmp 72) (v := v520) rfl
   have h2 := ha.eval (x := .tmp 74) (v := .int .i64 (i : Int)) rfl
   rw [hv] at h1
   have h3 : (i : Int) < (z516.length : Int) := by omega
   simp [execOp, h1, h2, Instr.indexAt, asIntOf, run_underlying Tryd.underlying22, h3, Tryd.sizeOf61, add_none]
   intro h9_; exact absurd h9_ (by omega)
  refine s_lda rfl hCi Tryd.isAgg61 rfl Tryd.sizeOf61 rfl (s_al Tryd.zeroValue61 rfl rfl (fun bt w3 hbt ex3 hlt3 hRt => ?_))
  have hRt' : Row 61 w3 bt [.int .i64 0, .int .i64 0, .int .i64 0, .int .i64 0, .int .i64 0, .int .u8 0, .int .i64 0, .int .i64 0] := hRt
  refine s_st rfl rfl rfl hRt' Tryd.sizeOf61 rfl rfl (on8 rfl rfl rfl rfl rfl rfl rfl rfl) (fun w4 hr4 hk4 => ?_)
  have e24 : Ext W_ w4 := ex3.tail hk4 fun c hc => by
   have : c = bt := by simpa using hc
   omega
  refine Reg.nil ?_
  have hr4' : Row 61 w4 bt (encR z516[i]) := hr4
  have hJ4 : J (z516.take i) w4 := hJ _ _ _ none hJi (Ext.grownBy e24) (fun r hr => by cases hr)
  have hY4 := hY (z516.take i) z516[i] w4 hJ4 (by rw [List.length_take]; omega) (by rw [List.length_take, Nat.min_eq_left (by omega)]; exact List.getElem?_eq_getElem hlt)
  have htk : z516.take (i + 1) = z516.take i ++ [z516[i]] := by rw [List.take_add_one, List.getElem?_eq_getElem hlt]; rfl
  have hK4 : KB b2 w518 w4 := hKi.trans (KB.of_ext e24 (Nat.lt_of_lt_of_le hb2 (Nat.le_trans hI524.kp.size hKi.size)))
  refine cw_seq (cw_regI n ?_)
  refine Rgi.val (.func (.yield lp) #[] #[]) rfl rfl rfl rfl (fun a ha => by simp [execOp, ha.eval (x := .tmp 0) (v := .func (.yield lp) #[] #[]) rfl]) ?_
  refine Rgi.val (.agg (encR z516[i]).toArray) rfl rfl rfl rfl (fun a ha => by
   have := run_loadCells_list (P := Tryd.prog) w4 ⟨bt, 0, none⟩ (encR z516[i]) (fun j v hj => by rw [add_none]; exact hr4'.rd.cells j v hj)
   have h9 := ha.eval (x := .tmp 13) (v := .pointer (some ⟨bt, 0, none⟩)) rfl
   simp only [encR] at this ⊢
   simp at this
   simp [execOp, h9, Instr.loadAt, Instr.sureAddr, loadVar, Tryd.isAgg61, Tryd.sizeOf61, this]) ?_
  refine Rgi.yield rfl rfl rfl hY4 ?_
  rintro e w5 (⟨rfl, hJ5, hK5⟩ | ⟨rfl, hJ5⟩)
  ·refine ⟨_, rfl, ?_⟩
   refine Rgi.val (.bool false) rfl rfl rfl rfl (fun a ha => by
    have h9 := ha.eval (x := .tmp 80) (v := .bool true) rfl
    simp [execOp, h9, Op.unary]) ?_
   refine Rgi.nil ?_
   refine cw_condF rfl ?_
   refine cw_skip (cw_regF ?_)
   refine p_add (n := ((i + 1 : Nat) : Int)) rfl rfl rfl ⟨by omega, by rw [InK.i64] at hlen_ ⊢; omega⟩ ?_
   refine s_mv rfl rfl (Reg.nil ?_)
   exact ⟨rfl, i + 1, ⟨by omega, by rw [htk]; exact hJ5, hK4.trans hK5⟩, sb4 rfl rfl rfl rfl, by omega⟩
  refine ⟨_, rfl, ?_⟩
  refine Rgi.val (.bool true) rfl rfl rfl rfl (fun a ha => by
   have h9 := ha.eval (x := .tmp 80) (v := .bool false) rfl
   simp [execOp, h9, Op.unary]) ?_
  refine Rgi.nil ?_
  refine cw_condT rfl ?_
  refine cw_ret (fin0 Tryd.results73 ?_)
  exact ⟨⟨_, rfl⟩, .inr ⟨_, List.take_prefix (i + 1) _, by rw [htk]; exact hJ5⟩⟩
 have hge : ¬ (i : Int) < (z516.length : Int) := of_decide_eq_false hc
 have hi' : i = z516.length := by omega
 subst hi'
 refine cw_exit (exB_same ?_)
 refine fin0 Tryd.results73 ?_
 exact ⟨⟨_, rfl⟩, .inl ⟨_, rfl, by rwa [List.take_length] at hJi⟩⟩
end Go.Proofs.YtepjkmoipjeghaaDoor
namespace Go.Sx
open Go Go.RowKit
variable [Trk]
/-- How something lies does not hang on the world. -/
def Flat {α : Type} (E : Enc α) : Prop := ∀ {M M' : List Nat} {w w' : World} {cs : List Value} {x : α}, E.R M w cs x → E.R M' w' cs x
theorem Chunks.flat {α : Type} {E : Enc α} (hE : Flat E) {M M' : List Nat} {w w' : World} : ∀ {cs : List Value} {xs : List α}, Chunks E M w cs xs → Chunks E M' w' cs xs
  | _, [], h => h
  | _, _ :: _, ⟨c, rest, h, hR, hr⟩ => ⟨c, rest, h, hE hR, Chunks.flat hE hr⟩
theorem Own.flat {α : Type} {E : Enc α} (hE : Flat E) {e : TypeId} {Bb : Nat} {M M' : List Nat} {w w' : World} {v : Value} {xs : List α} (h : Own E e Bb M w v xs) (hb : ∀ b ∈ ob v, w'.heap[b]? = w.heap[b]?) : Own E e Bb M' w' v xs := by
  rcases h with h | ⟨g, cap, cur, rfl, h1, h2, h3, h4, h5, h6⟩
  · exact .inl h
  · exact .inr ⟨g, cap, cur, rfl, h1, by rw [hb g (by simp [ob])]; exact h2, h3, h4, h5, Chunks.flat hE h6⟩
theorem Own.isC {α : Type} {E : Enc α} {e : TypeId} {Bb : Nat} {M : List Nat} {w : World} {v : Value} {xs : List α} (h : Own E e Bb M w v xs) : ∀ b ∈ ob v, ∃ o, w.heap[b]? = some o ∧ o.isCells = true := by
  rcases h with ⟨a, rfl, _⟩ | ⟨g, cap, cur, rfl, h1, h2, h3, h4, h5, h6⟩
  · intro b hb; cases a <;> cases hb
  · intro b hb
    have : b = g := by simpa [ob] using hb
    subst this; exact ⟨_, h2, rfl⟩
section
variable {α : Type} {E : Enc α} {e t : TypeId} {M : List Nat} {w0 W W' : World} {b2 : Nat} {v v' : Value} {xs xs' : List α}
/-- The slice that grows, and the variable that holds it. -/
abbrev grS (E : Enc α) (e t : TypeId) (b2 : Nat) (v : Value) (xs : List α) : List Res := [ownR [] E e v xs, rowR t b2 [v]]
theorem Hp.turnG (hE : Flat E) (ht : ¬ Trk.t) {row : Option Nat} (h : Hp w0 [] M (grS E e t b2 v xs) W) (hg : W.grownBy W' row) (hr : ∀ r, row = some r → w0.heap.size ≤ r ∧ ∃ o : Obj, W.heap[r]? = some o ∧ o.isCells = false) : Hp w0 [] M (grS E e t b2 v xs) W' := by
  have hk : Kp [] w0 W' := ⟨hg.os.trans h.kp.os, hg.tape.trans h.kp.tape, hg.output.trans h.kp.output, Nat.le_trans h.kp.size hg.size, fun b hb hn => (hg.block b (Nat.lt_of_lt_of_le hb h.kp.size) fun e => by
    have := (hr b e.symm).1
    omega).trans (h.kp.block b hb hn), fun h => absurd h ht⟩
  have ho := h.ownAt 0 rfl
  have hrw := h.row 1 rfl
  have hcell : ∀ (b : Nat) (o : Obj), W.heap[b]? = some o → o.isCells = true → W'.heap[b]? = W.heap[b]? := fun b o hb hc => hg.block b (heap_lt hb) fun e => by
    obtain ⟨_, o', h1, h2⟩ := hr b e.symm
    rw [hb] at h1; cases h1
    rw [hc] at h2; cases h2
  refine ⟨hk, fun b hb => Nat.lt_of_lt_of_le (h.mlt b hb) hg.size, ⟨hk.mono fun x hx => (by cases hx), h.adv.new⟩, h.base, h.sepM, h.own, h.dis, fun r hr' => ?_⟩
  rcases List.mem_cons.1 hr' with rfl | hr'
  · exact Own.flat hE ho fun b hb => by
      obtain ⟨o, h1, h2⟩ := ho.isC b hb
      exact hcell b o h1 h2
  · have : r = rowR t b2 [v] := by simpa using hr'
    subst this
    exact (hcell b2 _ hrw rfl).trans hrw
theorem Hp.gof (h : Hp w0 [] M (grS E e t b2 v xs) W) : gOf W b2 = (ob v).head? := by
  have := (h.row 1 rfl).rd.cells.at 0 rfl
  unfold gOf
  rw [this]
theorem ob_head {v : Value} {b : Nat} : (ob v).head? = some b ↔ b ∈ ob v := by
  unfold ob
  split <;> simp [eq_comm]
theorem Hp.kb (h : Hp w0 [] M (grS E e t b2 v xs) W) (h' : Hp w0 [] M (grS E e t b2 v' xs') W') (hA : Adv (mm (grS E e t b2 v xs) M) (mm (grS E e t b2 v' xs') M) W W') : KB b2 W W' ∧ KeepsFrom w0.heap.size W W' := by
  have ho := h.ownAt 0 rfl
  have hmem : ∀ b, b ∈ mm (grS E e t b2 v xs) M → b ∈ ob v ∨ b = b2 ∨ b ∈ M := fun b hb => by
    simp only [mm, ownR, rowR, List.mem_append, List.mem_cons, List.not_mem_nil, or_false] at hb
    rcases hb with h1 | h1 | h1
    · exact .inl h1
    · exact .inr (.inl h1)
    · exact .inr (.inr h1)
  have hM : ∀ b ∈ M, W'.heap[b]? = W.heap[b]? := fun b hb => (h'.kp.block b (h.base b hb) (by simp)).trans (h.kp.block b (h.base b hb) (by simp)).symm
  refine ⟨⟨hA.kp.size, fun b j u hb hg hu => ?_, fun g hg => ?_⟩, ⟨hA.kp.size, fun k o hk ho' hc => ?_⟩⟩
  · have hlt : b < W.heap.size := cell_lt hu
    have hsame : W'.heap[b]? = W.heap[b]? := by
      by_cases hm : b ∈ mm (grS E e t b2 v xs) M
      · rcases hmem b hm with h1 | h1 | h1
        · exact absurd (by rw [h.gof]; exact ob_head.2 h1) hg
        · exact absurd h1 hb
        · exact hM b h1
      · exact hA.kp.block b hlt hm
    rw [World.cell?_of_block (a := ⟨b, j, none⟩) (w := W) hsame]; exact hu
  · rw [h'.gof] at hg
    have hgo := ob_head.1 hg
    rcases hA.new g (mem_mm.2 (.inl ⟨_, List.mem_cons_self .., hgo⟩)) with h1 | h1
    · rcases hmem g h1 with h2 | h2 | h2
      · exact .inl (by rw [h.gof]; exact ob_head.2 h2)
      · exact absurd (by rw [h2]; simp [rowR]) (h'.dis 0 1 _ _ rfl rfl (by omega) g hgo)
      · exact absurd h2 (h'.sepM _ (List.mem_cons_self ..) g hgo)
    · exact .inr h1
  · refine (hA.kp.block k (heap_lt ho') fun hm => ?_).trans ho'
    rcases hmem k hm with h1 | h1 | h1
    · obtain ⟨o2, h2, h3⟩ := ho.isC k h1
      rw [ho'] at h2; cases h2
      rw [hc] at h3; cases h3
    · subst h1
      have h2 : W.heap[k]? = _ := h.row 1 rfl
      rw [ho'] at h2; cases h2; cases hc
    · have := h.base k h1
      omega
end
/-- A range over a function that yields. -/
theorem cw_rangeV {P : Program} {N : Nat} {ds : List Deferred} {L : Env} {w : World} {A B : Out} {X : Nat → Out} {Z : List PanicEntry → Out} {g : Operand} {p : Nat} {assign body : Code} {gf : Nat} {lb : Array Value} {α : Type} {val : α → Value} {xs : List α} {K : World → World → Prop}
    (hg : ev L g = some (.func (.func gf) #[] lb)) (eg : ∀ args w, (callFunc gf args).run P w = .ok (.enter gf args) w) (hp : Nat.blt p N = true)
    (hseq : SeqStopsK Fence.wide 2 P gf lb (fun x : α => #[val x]) K (fun ys => ys = xs) (fun pre => pre <+: xs) xs.length w)
    (hKt : ∀ {A B C : World}, K A B → K B C → K A C) (hKb : ∀ (W : World) (l : Nat) (o o' : Obj), w.heap.size ≤ l → W.heap[l]? = some o → o.isCells = false → o.isWalk = false → K W (W.putObj l o'))
    (I Ix : List α → World → Prop) (hI : OwnFrom w.heap.size I) (hIx : OwnFrom w.heap.size Ix) (h0 : I [] w)
    (AL : α → Env → World → Prop) (hAL : ∀ x L', OwnFrom w.heap.size fun (_ : Unit) W => AL x L' W)
    (hassign : ∀ (l : Nat) (pre : List α) (x : α) (W : World), I pre W → CI l 1 P N assign [] ((p, val x) :: L) W (fun ds' L' W' => ds' = [] ∧ KeepsFrom w.heap.size W W' ∧ K W W' ∧ I pre W' ∧ AL x L' W') (fun _ _ _ => False) NoX (fun _ _ _ _ => False))
    (hbody : ∀ (l : Nat) (pre : List α) (x : α) (L' : Env) (W : World), I pre W → AL x L' W → pre.length < xs.length →
      CI l 1 P N body [] L' W (fun _ _ W' => KeepsFrom w.heap.size W W' ∧ K W W' ∧ I (pre ++ [x]) W') (fun _ _ W' => KeepsFrom w.heap.size W W' ∧ Ix (pre ++ [x]) W') NoX (fun _ _ _ _ => False))
    (hdone : ∀ (D : Nat) (W : World), w.heap.size ≤ D → I xs W → W.heap[D]? = some (.deferred (some [])) → A ({ target := .collected D, args := #[] } :: ds) L W)
    (hstop : ∀ (D : Nat) (pre : List α) (W : World), w.heap.size ≤ D → pre <+: xs → Ix pre W → W.heap[D]? = some (.deferred (some [])) → B ({ target := .collected D, args := #[] } :: ds) L W) :
    CW P N (.rangeFunc g #[p] assign body) ds L w A B X Z := by
  intro a ha
  refine (wpIn_wide (n := 3)).1 ?_
  have hN : p < N := by simpa [Nat.blt_eq] using hp
  refine wpIn_rangeFunc_ownH (F := Fence.wide) (n := 3) rfl (by omega) (ha.eval hg) trivial eg hseq (fun h k => hKt h k) hKb (Below.refl _ _) (fun x => rfl) I (fun c pre W => c = .ret ∧ Ix pre W) hI
    (fun c s W W' row hs hgr hr => ⟨hs.1, hIx s W W' row hs.2 hgr hr⟩) h0 (fun x a' W => ∃ L', Knows N [] L' a' ∧ AL x L' W) (fun x a' s W W' row hs hgr hr => ?_) ?_ ?_ ?_ ?_
  · obtain ⟨L', h1, h2⟩ := hs
    exact ⟨L', h1, hAL x L' () W W' row h2 hgr hr⟩
  · intro l pre x W K' hi hK
    have hk : Knows N [] ((p, val x) :: L) { tmps := a.tmps.setIfInBounds p (val x), defers := [] } := by
      have := (show Knows N [] L { a with defers := [] } from ⟨ha.size, rfl, ha.val⟩).put hp (val x)
      exact this
    have hz : (Array.foldl (fun (t : Array Value) (x : Tmp × Value) => match x with | (p, v) => t.setIfInBounds p v) a.tmps (#[p].zip #[val x])) = a.tmps.setIfInBounds p (val x) := by simp
    rw [hz]
    refine wpIn_mono (hassign l pre x W hi _ hk) fun e a' W' hq => ?_
    cases e with
    | normal => obtain ⟨ds', L', h1, rfl, h3, h4, h5, h6⟩ := hq; exact hK a' W' h3 h4 h5 ⟨L', h1, h6⟩
    | ret => obtain ⟨_, _, _, h⟩ := hq; exact h.elim
    | exit i => obtain ⟨_, _, _, h⟩ := hq; exact h.elim
    | panic c => obtain ⟨_, _, _, h⟩ := hq; exact h.elim
    | goto l => exact hq.elim
    | outgrown => exact hq.elim
  · intro l pre x a' W _ _ hi hA hl
    obtain ⟨L', h1, h2⟩ := hA
    refine wpIn_mono (hbody l pre x L' W hi h2 hl a' h1) fun e a' W' hq => ?_
    cases e with
    | normal => obtain ⟨ds', L', h1, h3⟩ := hq; exact h3
    | ret => obtain ⟨ds', L', h1, h3, h4⟩ := hq; exact ⟨h3, rfl, h4⟩
    | exit i => obtain ⟨_, _, _, h⟩ := hq; exact h.elim
    | panic c => obtain ⟨_, _, _, h⟩ := hq; exact h.elim
    | goto l => exact hq.elim
    | outgrown => exact hq.elim
  · intro D ys W hD hy hi hw
    subst hy
    exact ⟨_, L, ⟨ha.size, by rw [ha.defers], ha.val⟩, hdone D W hD hi hw⟩
  · intro D c pre W hD hy hi hw
    obtain ⟨rfl, hi⟩ := hi
    exact wpIn_ret ⟨_, L, ⟨ha.size, by rw [ha.defers], ha.val⟩, hstop D pre W hD hy hi hw⟩
end Go.Sx
namespace Go.Proofs.YtepjkmoipjeghaaDoor
open Go Go.Sx Go.RowKit
/-- From here on draws are not counted on. -/
instance trkF : Trk := ⟨False⟩
/-- The iterator of a desk. -/
def ItF (M : List Nat) (w : World) (v : Value) (d : Desk) : Prop := ∃ b v0 v1 v2, v = .func (.func 73) #[] [vp b 0].toArray ∧ RdC M w b 0 [v0, v1, v2] ∧ RdF Ky3 ReportE true M w v0 d.store.reports ∧ RdF Ky3 (intE .i64) false M w v1 d.gone ∧ RdF Ky3 (intE .i64) false M w v2 d.fixed
theorem ItF.adv {M M' : List Nat} {w w' : World} {v : Value} {d : Desk} (h : ItF M w v d) (ha : Adv M M' w w') : ItF M' w' v d := by
  obtain ⟨b, v0, v1, v2, h0, h1, h2, h3, h4⟩ := h
  exact ⟨b, v0, v1, v2, h0, h1.adv ha, h2.adv ha, h3.adv ha, h4.adv ha⟩
/-- Reports whose numbers fit. -/
abbrev RepI := { r : Report // InR r }
theorem val_inj {a b : List RepI} (h : a.map Subtype.val = b.map Subtype.val) : a = b := (List.map_inj_right (fun _ _ h => Subtype.ext h)).1 h
theorem yield_mono {F : Fence} {m : Nat} {P : Program} {l : Nat} {args : Array Value} {W : World} {R R' : Ending → World → Prop} (h : YieldAt F m P l args W R) (hr : ∀ e w, R e w → R' e w) : YieldAt F m P l args W R' := by
  obtain ⟨fn, tmps, assign, body, h1, h2⟩ := h
  exact ⟨fn, tmps, assign, body, h1, h2.mono hr⟩
theorem facts_stops (n : Nat) {M : List Nat} {w : World} (hM : MLt M w) {v : Value} {d : Desk} (hf : ItF M w v d) {l : List RepI} (h : P.account_facts d = some (l.map Subtype.val)) {b2 : Nat} (hb2 : b2 < w.heap.size) (hg2 : ∀ g, gOf w b2 = some g → g < w.heap.size) :
    ∃ lb, v = .func (.func 73) #[] lb ∧ SeqStopsK Fence.wide n Tryd.prog 73 lb (fun r : RepI => #[.agg (encR r.1).toArray]) (KB b2) (fun ys => ys = l) (fun pre => pre <+: l) l.length w := by
  obtain ⟨b, v0, v1, v2, rfl, hc, f0, f1, f2⟩ := hf
  refine ⟨_, rfl, fun lp J Jx W hW hJ _ hY h0 => ?_⟩
  have hE : Ext w W := Ext.of_below0 hW (fun h => h)
  have hA : Adv M M w W := Adv.of_ext hE
  have hg2' : ∀ g, gOf W b2 = some g → g < W.heap.size := fun g hg => by
    rcases (KB.of_ext hE hb2).gof g hg with h1 | h1
    · exact Nat.lt_of_lt_of_le (hg2 g h1) hE.size
    · have h5 : gOf w b2 = some g := by
        unfold gOf at hg ⊢
        rw [World.cell?_of_block (a := ⟨b2, 0, none⟩) (w := w) (hE.block b2 hb2 (by simp))] at hg
        exact hg
      exact Nat.lt_of_lt_of_le (hg2 g h5) hE.size
  refine callsIn_wide.2 ((C_account_facts (hM.ext hE) (f0.adv hA) (f1.adv hA) (f2.adv hA) (hc.adv hA) h (Nat.lt_of_lt_of_le hb2 hE.size) hg2' (n := n) (lp := lp)
    (J := fun pre W => ∃ pre' : List RepI, pre'.map Subtype.val = pre ∧ J pre' W) (Jx := fun pre W => ∃ pre' : List RepI, pre'.map Subtype.val = pre ∧ Jx pre' W) ?_ ?_ ⟨[], rfl, h0⟩).mono ?_)
  · rintro s W1 W2 row ⟨pre', h1, h2⟩ hg hr
    exact ⟨pre', h1, hJ _ _ _ row h2 hg hr⟩
  · rintro pre x W1 ⟨pre', rfl, h2⟩ hlt hx
    rw [List.length_map] at hlt
    rw [List.length_map] at hx
    rw [List.getElem?_map] at hx
    obtain ⟨x', hx', rfl⟩ := Option.map_eq_some_iff.1 hx
    refine yield_mono (hY pre' x' W1 h2 (by rw [List.length_map] at hlt; exact hlt)) ?_
    rintro e W' (⟨rfl, h3, h4⟩ | ⟨rfl, h3⟩)
    · exact .inl ⟨rfl, ⟨_, by simp, h3⟩, h4⟩
    · exact .inr ⟨rfl, _, by simp, h3⟩
  · rintro e W' ⟨hv, ⟨xs, rfl, pre', h1, h2⟩ | ⟨pre, hp, pre', rfl, h2⟩⟩
    · exact ⟨hv, .inl ⟨_, val_inj h1, h2⟩⟩
    · refine ⟨hv, .inr ⟨pre', ?_, h2⟩⟩
      obtain ⟨t, ht⟩ := hp
      refine ⟨l.drop pre'.length, val_inj ?_⟩
      rw [List.map_append, List.map_drop, ← ht]
      simp
theorem flatR : Flat ReportE := fun h => ReportE_R.2 (ReportE_R.1 h)
/-- What a round finds: the report in a variable of the round's. -/
def AlR (M : List Nat) (b2 : Nat) (x : RepI) (L : Sx.Env) (W : World) : Prop := ∃ b5 u, Sub [(2, .pointer (some ⟨b2, 0, none⟩)), (5, .pointer (some ⟨b5, 0, none⟩))] L ∧ Row 61 W b5 (encR x.1) ∧ Row 22 W b2 [u] ∧ b5 ∉ ob u ∧ b5 ≠ b2 ∧ b5 ∉ M
theorem C_slices_AppendSeq {M : List Nat} {w : World} (hM : MLt M w) {v : Value} {d : Desk} (hf : ItF M w v d) {l : List RepI} (h : P.account_facts d = some (l.map Subtype.val)) (hl : l.length * 64 ≤ 140737488355328) :
  Calls Tryd.prog 69 (List.toArray [.slice none 0 0, v]) w fun e w' => ∃ v' : Value, e = .returned v' ∧ (Sx.Own ReportE 61 0 M w' v' (l.map Subtype.val) ∧ ∀ b ∈ ob v', w.heap.size ≤ b) ∧ Ext w w' := by
 refine calls_cwM Tryd.func69 rfl Tryd.ntmps69 rfl ?_
 have hI := Hp.start (Mu := []) hM
 refine cw_seq (cw_regF (y_box hI rfl rfl rfl ?_))
 intro b2 w2 hI2 x2
 refine s_as rfl rfl (Reg.nil (cw_seq (cw_seq (cw_regF (s_mv rfl rfl (Reg.nil ?_))))))
 have hI3 : Hp w [] M (grS ReportE 61 22 b2 (.slice none 0 0) []) w2 := hI2.addNil ReportE 61
 have hb2 : b2 < w2.heap.size := hI3.mlt b2 (by simp [mm, rowR])
 have hgn : gOf w2 b2 = none := by rw [hI3.gof]; rfl
 obtain ⟨lb, hv, hseq⟩ := facts_stops 2 hI2.mlt (hf.adv hI2.adv) h hb2 (fun g hg => by rw [hgn] at hg; cases hg)
 subst hv
 refine cw_block ?_
 refine cw_rangeV (val := fun r : RepI => .agg (encR r.1).toArray) (K := KB b2) (xs := l) rfl Tryd.call73 rfl hseq (fun h k => h.trans k) (fun W lp o o' hlp ho hc _ => KB.putObj ho hc (by omega))
  (fun pre W => ∃ v', Hp w [] M (grS ReportE 61 22 b2 v' (pre.map Subtype.val)) W ∧ w2.heap.size ≤ W.heap.size ∧ pre.length ≤ l.length) (fun _ _ => False) ?_ (fun _ _ _ _ h _ _ => h.elim) ⟨_, hI3, Nat.le_refl _, Nat.zero_le _⟩ (AlR M b2) ?_ ?_ ?_ ?_ (fun _ _ _ _ _ h _ => h.elim)
 ·rintro pre W W' row ⟨v', h1, h2, h3⟩ hg hr
  exact ⟨v', h1.turnG flatR (fun h => h) hg (fun r e => ⟨Nat.le_trans hI3.kp.size (hr r e).1, (hr r e).2⟩), Nat.le_trans h2 hg.size, h3⟩
 ·rintro x L' _ W W' row ⟨b5, u, h1, h2, h3, h4, h5, h6⟩ hg hr
  have hcl : ∀ (b : Nat) (o : Obj), W.heap[b]? = some o → o.isCells = true → W'.heap[b]? = W.heap[b]? := fun b o hb hc => hg.block b (heap_lt hb) fun e => by
   obtain ⟨_, o', g1, g2⟩ := hr b e.symm
   rw [hb] at g1; cases g1
   rw [hc] at g2; cases g2
  exact ⟨b5, u, h1, (hcl b5 _ h2 rfl).trans h2, (hcl b2 _ h3 rfl).trans h3, h4, h5, h6⟩
 ·rintro l' pre x W ⟨v', h1, h2, h3⟩
  refine ci_reg rfl ?_
  refine y_al h1 Tryd.zeroValue61 rfl rfl ?_
  intro b5 w5 hI5 x5
  refine y_st 0 hI5 rfl rfl rfl rfl Tryd.sizeOf61 rfl rfl (on8 rfl rfl rfl rfl rfl rfl rfl rfl) ?_
  intro w6 hI6 x6
  have hI6' : Hp w [] M (rowR 61 b5 (encR x.1) :: grS ReportE 61 22 b2 v' (pre.map Subtype.val)) w6 := hI6
  have hI7 : Hp w [] M (grS ReportE 61 22 b2 v' (pre.map Subtype.val)) w6 := hI6'.erase 0
  have hA : Adv (mm (grS ReportE 61 22 b2 v' (pre.map Subtype.val)) M) (mm (grS ReportE 61 22 b2 v' (pre.map Subtype.val)) M) W w6 := x5.trans (x6.trans (Hp.eraseA (σ := rowR 61 b5 (encR x.1) :: grS ReportE 61 22 b2 v' (pre.map Subtype.val)) 0))
  obtain ⟨hk1, hk2⟩ := h1.kb hI7 hA
  refine Reg.nil ⟨rfl, ⟨hk2.size, fun k o hB => hk2.same k o (Nat.le_trans hI3.kp.size hB)⟩, hk1, ⟨v', hI7, Nat.le_trans h2 hA.kp.size, h3⟩, b5, v', sb2 rfl rfl, hI6'.row 0 rfl, hI6'.row 2 rfl, ?_, ?_, ?_⟩
  ·intro hb
   exact hI6'.dis 0 1 _ _ rfl rfl (by omega) b5 (by simp [rowR]) hb
  ·intro hb
   exact hI6'.dis 0 2 _ _ rfl rfl (by omega) b5 (by simp [rowR]) (by simp [rowR, hb])
  exact hI6'.sepM _ (List.mem_cons_self ..) b5 (by simp [rowR])
 ·rintro l' pre x L' W ⟨v', h1, h2, h3⟩ ⟨b5, u, hs, hr5, hru, h5u, h52, h5M⟩ hlt
  have huv : u = v' := by
   have e1 : W.heap[b2]? = _ := hru
   have e2 : W.heap[b2]? = _ := h1.row 1 rfl
   rw [e1] at e2
   have := Option.some.inj e2
   injection this with h9
   simpa using h9
  subst huv
  refine ci_sub hs ?_
  refine ci_block ?_
  have hC5 : RdC (mm (grS ReportE 61 22 b2 u (pre.map Subtype.val)) M) W b5 0 (encR x.1) := RdC.of_row (fun hb => by
   simp only [mm, ownR, rowR, List.mem_append, List.mem_cons, List.not_mem_nil, or_false] at hb
   rcases hb with h9 | h9 | h9
   ·exact h5u h9
   ·exact h52 h9
   ·exact h5M h9) hr5
  obtain ⟨q0, q1, q2, q3, q4, q5, q6, q7⟩ := x.2
  refine ci_reg rfl ?_
  refine s_ld rfl ((h1.row 1 rfl).rd.cells.at 0 rfl) Tryd.isAgg22 rfl (s_lda rfl hC5.cells Tryd.isAgg61 rfl Tryd.sizeOf61 rfl (y_bs (E := ReportE) (xs := [x.1]) sl22 h1 rfl rfl (Cls.cons rfl Cls.nil) (Chs.cons (ReportE_R.2 ⟨rfl, q0, q1, q2, q3, q4, q5, q6, q7⟩) Chs.nil) rfl rfl ?_))
  intro v8 w8 hI8 x8
  have hf9 := hI8.freeze 0 rfl
  have hI9 := hI8.erase 0
  have hlen : (pre.map Subtype.val).length + [x.1].length ≤ l.length := by simp; omega
  refine y_app 0 sl22 hI9 rfl rfl rfl hf9 ⟨?_, ?_⟩ rfl ?_
  ·omega
  ·omega
  intro v10 w10 hI10 x10
  refine y_st 1 hI10 rfl rfl rfl (Own.cells1 (hI10.ownAt 0 rfl)) Tryd.sizeOf22 rfl rfl (one1 (Own.oneC (hI10.ownAt 0 rfl)) one0) ?_
  intro w11 hI11 x11
  have hI12 : Hp w [] M (grS ReportE 61 22 b2 v10 ((pre ++ [x]).map Subtype.val)) w11 := by
   have h9 : (pre ++ [x]).map Subtype.val = pre.map Subtype.val ++ [x.1] := by simp
   rw [h9]; exact hI11
  have hA : Adv (mm (grS ReportE 61 22 b2 u (pre.map Subtype.val)) M) (mm (grS ReportE 61 22 b2 v10 ((pre ++ [x]).map Subtype.val)) M) W w11 := by
   have h9 : (pre ++ [x]).map Subtype.val = pre.map Subtype.val ++ [x.1] := by simp
   rw [h9]
   exact x8.trans ((Hp.eraseA (σ := ownR [] ReportE 61 v8 [x.1] :: grS ReportE 61 22 b2 u (pre.map Subtype.val)) 0).trans (x10.trans x11))
  obtain ⟨hk1, hk2⟩ := h1.kb hI12 hA
  exact Reg.nil ⟨⟨hk2.size, fun k o hB => hk2.same k o (Nat.le_trans hI3.kp.size hB)⟩, hk1, v10, hI12, Nat.le_trans h2 hA.kp.size, by simp; omega⟩
 rintro D W hD ⟨v', h1, h2, h3⟩ hdef
 refine cw_seq (cw_regF (s_ld rfl ((h1.row 1 rfl).rd.cells.at 0 rfl) Tryd.isAgg22 rfl (s_as rfl rfl (Reg.nil (cw_ret ?_)))))
 have h9 := h1.turnG flatR (fun h => h) (grownBy_putObj' W D (.deferred none)) fun j e => by cases e; exact ⟨Nat.le_trans hI3.kp.size hD, _, hdef, rfl⟩
 refine .inr ⟨D, _, rfl, run_takeDeferred hdef, v', fun a ha => ?_, v', rfl, h9.ownOut 0 rfl, h9.kp⟩
 rw [results_tmp Tryd.results69, ha.getD rfl]
end Go.Proofs.YtepjkmoipjeghaaDoor
namespace Go.Proofs.YtepjkmoipjeghaaDoor
open Go Go.Sx Go.ChangeShapes Go.WideShapes Go.ChangeAt Go.RowKit
namespace frame
theorem own : ownKnob Tryd.prog.godebug = none := by kernel_rfl
theorem laidOut : laidOutB Tryd.prog = true := by kernel_rfl
theorem bInt : Bridge Tryd.prog 3 (intE .i64) := bridge_int Tryd.underlying3
theorem bU8 : Bridge Tryd.prog 5 (intE .u8) := bridge_int Tryd.underlying5
theorem bReport : Bridge Tryd.prog 61 ReportE := bridge_map (fun a => ⟨a.1, a.2.1, a.2.2.1, a.2.2.2.1, a.2.2.2.2.1, a.2.2.2.2.2.1, a.2.2.2.2.2.2.1, a.2.2.2.2.2.2.2⟩) (fun _ => rfl) (bridge_struct Tryd.underlying61 rfl (fb_cons bInt (by kernel_rfl) (fb_cons bInt (by kernel_rfl) (fb_cons bInt (by kernel_rfl) (fb_cons bInt (by kernel_rfl) (fb_cons bInt (by kernel_rfl) (fb_cons bU8 (by kernel_rfl) (fb_cons bInt (by kernel_rfl) (fb_last bInt (by kernel_rfl))))))))))
theorem bReports : Bridge Tryd.prog 22 (sliceE ReportE) := bridge_slice Tryd.underlying22 (by kernel_rfl) bReport
theorem inr {M : List Nat} {w : World} {v : Value} {xs : List Report} (h : RdS ReportE M w v xs) : ∀ r ∈ xs, InR r := fun r hr => by
  obtain ⟨a, c, _, _, _, h4⟩ := h
  rcases h4 with rfl | ⟨b, o, _, _, _, h5⟩
  · cases hr
  · obtain ⟨i, hi, rfl⟩ := List.getElem_of_mem hr
    obtain ⟨cs, hR, _⟩ := h5 i hi
    exact (ReportE_R.1 hR).2
abbrev laid1 : List (String × DataW Unit) := [("goodname/account.most", Rows.laid_goodname_account_most)]
theorem gMost : Tryd.prog.globalNamed "goodname/account.most" = some 0 := by kernel_rfl
theorem tMost : (Tryd.prog.globals[0]?).map (·.type) = some 131 := by kernel_rfl
theorem door_met (os : Os) (args : Array Value) : laidMetH Tryd.prog laid1 ((World.doorLaid Tryd.prog 14 os).forCall (fun _ _ => 0) ⟨#[], args, []⟩).memory :=
  laidMetH_of_parts3 (fuel := 8) (laidMet_of_run' 8 (by kernel_rfl) (by kernel_rfl)) (by kernel_rfl) (by kernel_rfl)
theorem of_laid {W : World} (h : laidMetH Tryd.prog laid1 W) : RdC [] W 0 0 (glob0.map (Value.int .i64)) := by
  rw [MakeChecks.laidMetH_plain _ _ _ (by kernel_rfl)] at h
  obtain ⟨ps, ⟨g0, t0, cs0, f0, p0, q0, hg0, ht0, hv0, hd0, _, _⟩, _, _⟩ := h
  obtain rfl := Option.some.inj (gMost.symm.trans hg0)
  obtain rfl := Option.some.inj (tMost.symm.trans ht0)
  obtain ⟨xs, m, rfl, hx, hlen, hn, hel⟩ := DataW.trod_array Tryd.underlying131 hd0
  have c3 : Tryd.prog.cellsOf 3 = 1 := by kernel_rfl
  have hxs : xs.map (·.1) = glob0.map fun n => DataW.lit (.int .i64 n) := by
    have := congrArg Prod.fst hx
    simp only [Rows.laid_goodname_account_most, DataW.agg.injEq] at this
    exact this.symm
  have hc : ∀ j v, (glob0.map (Value.int .i64))[j]? = some v → W.cell? ⟨0, 0 + j, none⟩ = some v := fun j v hj => by
    have hj10 : j < 10 := by
      have := (List.getElem?_eq_some_iff.1 hj).1
      simpa [glob0] using this
    have h1 := hel j hj10
    rw [c3, Nat.mul_one] at h1
    obtain ⟨x, hxj⟩ : ∃ x, xs[j]? = some x := ⟨_, List.getElem?_eq_getElem (by omega)⟩
    obtain ⟨n, e1, e2, _⟩ := DataW.trod_int Tryd.underlying3 (h1.trans hxj)
    have e3 : (xs.map (·.1))[j]? = some (DataW.lit (.int .i64 n)) := by rw [List.getElem?_map, hxj, e2]; rfl
    rw [hxs, List.getElem?_map] at e3
    rw [List.getElem?_map] at hj
    cases hg : glob0[j]? with
    | none => rw [hg] at e3; cases e3
    | some y =>
      rw [hg] at e3 hj
      simp at e3 hj
      subst e3 hj
      have := World.var?_cell hg0 hv0 j
      rw [Nat.zero_add, this]
      have h9 := congrArg (fun l : List Value => l[0]?) e1
      simpa [List.getElem?_take, List.getElem?_drop] using h9
  refine ⟨by simp, ?_, hc⟩
  have h0 := hc 0 _ rfl
  rcases Nat.lt_or_ge 0 W.heap.size with h | h
  · exact h
  · have : W.heap[0]? = none := Array.getElem?_eq_none (by omega)
    simp [World.cell?, this] at h0
end frame
end Go.Proofs.YtepjkmoipjeghaaDoor
namespace Go.Proofs.YtepjkmoipjeghaaDoor
open Go Go.Sx Go.RowKit
def P.account_desk_facts (d : Desk) : Option Desk := some d
theorem C_account_desk_facts {M : List Nat} {w : World} (hM : MLt M w) {d : Desk} {v_d_0 v_d_1 v_d_2 : Value} (f_d_0 : RdF Ky3 ReportE true M w v_d_0 d.store.reports) (f_d_1 : RdF Ky3 (intE .i64) false M w v_d_1 d.gone) (f_d_2 : RdF Ky3 (intE .i64) false M w v_d_2 d.fixed) {r0 : Desk} (h : P.account_desk_facts d = some r0) :
  Calls Tryd.prog 38 (List.toArray [Value.agg (List.toArray [v_d_0, v_d_1, v_d_2])]) w fun e w' => ∃ v0_0 : Value, e = .returned (v0_0) ∧ ItF M w' v0_0 r0 ∧ Ext w w' := by
 have hI := Hp.start (Mu := []) hM
 refine calls_cw Tryd.func38 rfl Tryd.ntmps38 rfl ?_
 refine cw_seq (cw_regF (y_box hI rfl rfl rfl ?_))
 intro b w2 hI2 x2
 refine s_as rfl rfl (Reg.nil (cw_seq (cw_regF (s_mf rfl rfl ?_))))
 refine s_as rfl rfl (Reg.nil (cw_ret (fin1 Tryd.results38 rfl ?_)))
 obtain rfl := Option.some.inj h
 exact ⟨_, rfl, ⟨b, _, _, _, rfl, (hI2.freezeRow 0 rfl).adv (Adv.refl _ _), f_d_0.adv (Adv.of_ext hI2.kp), f_d_1.adv (Adv.of_ext hI2.kp), f_d_2.adv (Adv.of_ext hI2.kp)⟩, hI2.kp⟩
open Classical in
noncomputable def P.slices_Collect_36 (seq : Desk) : Option (List Report) := Option.bind (P.account_facts seq) fun l => if l.length * 64 ≤ 140737488355328 ∧ ∀ r ∈ l, InR r then some l else none
theorem C_slices_Collect_36 {M : List Nat} {w : World} (hM : MLt M w) {seq : Desk} {v_seq_0 : Value} (f_seq_0 : ItF M w v_seq_0 seq) {r0 : List Report} (h : P.slices_Collect_36 seq = some r0) :
  Calls Tryd.prog 36 (List.toArray [v_seq_0]) w fun e w' => ∃ v0_0 : Value, e = .returned (v0_0) ∧ (Sx.Own ReportE 61 0 M w' v0_0 r0 ∧ ∀ b ∈ ob v0_0, w.heap.size ≤ b) ∧ Ext w w' := by
 unfold P.slices_Collect_36 at h
 obtain ⟨l, hl, h⟩ := bnd h
 split at h
 ·rename_i hc
  obtain rfl := Option.some.inj h
  obtain ⟨xs, hxs⟩ : ∃ xs : List RepI, xs.map Subtype.val = l := ⟨l.attach.map fun r => ⟨r.1, hc.2 r.1 r.2⟩, by rw [List.map_map]; exact List.attach_map_subtype_val l⟩
  have hI := Hp.start (Mu := []) hM
  refine calls_cw Tryd.func36 rfl Tryd.ntmps36 rfl ?_
  refine cw_seq (cw_regF (s_as rfl rfl (Reg.nil (cw_seq (cw_regF (s_mv rfl rfl (s_call rfl Tryd.call69 rfl ?_)))))))
  refine (C_slices_AppendSeq hM f_seq_0 (l := xs) (by rw [hxs]; exact hl) (by have := congrArg List.length hxs; rw [List.length_map] at this; rw [this]; exact hc.1)).mono ?_
  rintro _ w2 ⟨v, rfl, ho, hx⟩
  refine ⟨_, rfl, ?_⟩
  refine s_as rfl rfl (Reg.nil (cw_ret (fin1 Tryd.results36 rfl ?_)))
  rw [hxs] at ho
  exact ⟨_, rfl, ho, hx⟩
 cases h
end Go.Proofs.YtepjkmoipjeghaaDoor
set_option maxRecDepth 20000
set_option maxHeartbeats 4000000
namespace Go.Proofs.YtepjkmoipjeghaaDoor
open Go Go.Sx Go.RowKit
noncomputable def P.account_Standing (l : (List Report)) (known : Int) : Option ((List Report) × Int) :=
  Option.bind (P.account_Check l) fun z1 => cond (!decide (z1 = 0)) (some ([], z1)) (Option.bind (P.account_in 0 100000 ([known] : List Int)) fun z12 => cond (!z12) (some ([], 2)) (Option.bind (P.account_open l known) fun z18 => Option.bind (P.account_desk_facts z18) fun z29 => Option.bind (P.slices_Collect_36 z29) fun z36 => some (z36, 0)))
theorem C_account_Standing {M : List Nat} {w : World} (hM : MLt M w) (hG : RdC M w 0 0 (glob0.map (Value.int .i64))) {l : (List Report)} {v_l_0 : Value} (f_l_0 : RdS ReportE M w v_l_0 l) {known : Int} (f_known_0 : InK .i64 known) {r0 : (List Report)} {r1 : Int} (h : P.account_Standing l known = some (r0, r1)) :
  Calls Tryd.prog 13 (List.toArray [v_l_0, vi known]) w fun e w' => ∃ v0_0 : Value, e = .returned (Value.tuple (List.toArray [v0_0, vi r1])) ∧ (Sx.Own ReportE 61 0 M w' v0_0 r0 ∧ ∀ b ∈ ob v0_0, w.heap.size ≤ b) ∧ InK .i64 r1 ∧ Ext w w' := by
 have hI := Hp.start (Mu := []) hM
 refine calls_cw Tryd.func13 rfl Tryd.ntmps13 rfl ?_
 refine cw_seq (cw_regF (s_as rfl rfl (s_as rfl rfl (Reg.nil (cw_seq (cw_seq (cw_regF (s_mv rfl rfl ?_))))))))
 obtain ⟨z1, hz2, h⟩ := bnd h
 refine s_call rfl Tryd.call17 rfl ((C_account_Check hI.mlt hG f_l_0 hz2).mono ?_)
 rintro _ w3 ⟨rfl, r5, e4⟩
 refine ⟨_, rfl, ?_⟩
 have hI6 := hI.ext e4
 refine s_as rfl rfl (Reg.nil (cw_seq (cw_regF (s_mv rfl rfl (s_neq rfl rfl rfl (Reg.nil (cw_cond rfl (fun hc7 => ?_) (fun hc7 => ?_))))))))
 ·replace h := cdT hc7 h
  refine cw_seq (cw_regF (s_mv rfl rfl (s_as rfl rfl (s_as rfl rfl (Reg.nil (cw_ret ?_))))))
  obtain ⟨rfl, rfl⟩ := inj2 h
  refine fin2 Tryd.results13 rfl rfl ?_
  exact ⟨_, rfl, ⟨Sx.Own.nil _ _ _ _ _, fun _ hb => by cases hb⟩, r5, hI6.kp⟩
 replace h := cdF hc7 h
 refine cw_skip (cw_seq (cw_seq (cw_regF (s_mv rfl rfl (y_bs (E := (intE .i64)) (xs := [known]) sl36 hI6 rfl rfl (Cls.cons rfl Cls.nil) (Chs.cons ⟨rfl, f_known_0⟩ Chs.nil) rfl rfl ?_)))))
 intro v8 w9 hI10 x11
 obtain ⟨z12, hz13, h⟩ := bnd h
 refine s_call rfl Tryd.call35 rfl ?_
 refine (C_account_in (hI10.sel [] rfl).mlt (by decide) (by decide) (hI10.lendRd [] 0 rfl rfl) hz13).mono ?_
 rintro _ w14 ⟨rfl, e15⟩
 refine ⟨_, rfl, ?_⟩
 have hI16 := hI10.ext e15
 refine s_not rfl rfl (Reg.nil (cw_cond rfl (fun hc17 => ?_) (fun hc17 => ?_)))
 ·replace h := cdT hc17 h
  refine cw_seq (cw_regF (s_as rfl rfl (s_as rfl rfl (Reg.nil (cw_ret ?_)))))
  obtain ⟨rfl, rfl⟩ := inj2 h
  refine fin2 Tryd.results13 rfl rfl ?_
  exact ⟨_, rfl, ⟨Sx.Own.nil _ _ _ _ _, fun _ hb => by cases hb⟩, (by decide), hI16.kp⟩
 replace h := cdF hc17 h
 refine cw_skip (cw_seq (cw_regF (s_mv rfl rfl (s_mv rfl rfl ?_))))
 obtain ⟨z18, hz19, h⟩ := bnd h
 refine s_call rfl Tryd.call37 rfl ((C_account_open hI16.mlt (hG.adv hI16.adv) (f_l_0.adv hI16.adv) f_known_0 hz19).mono ?_)
 rintro _ w20 ⟨v22, v24, v26, rfl, hf23, hf25, hf27, e21⟩
 refine ⟨_, rfl, ?_⟩
 have hI28 := hI16.ext e21
 obtain ⟨z29, hz30, h⟩ := bnd h
 refine s_call rfl Tryd.call38 rfl ((C_account_desk_facts (d := z18) hI28.mlt hf23 hf25 hf27 hz30).mono ?_)
 rintro _ w31 ⟨v33, rfl, hf34, e32⟩
 refine ⟨_, rfl, ?_⟩
 have hI35 := hI28.ext e32
 obtain ⟨z36, hz37, h⟩ := bnd h
 refine s_call rfl Tryd.call36 rfl ((C_slices_Collect_36 hI35.mlt hf34 hz37).mono ?_)
 rintro _ w38 ⟨v40, rfl, hf41, e39⟩
 refine ⟨_, rfl, ?_⟩
 have hI42 := hI35.addOwn e39 hf41
 refine s_as rfl rfl (s_as rfl rfl (Reg.nil (cw_ret ?_)))
 obtain ⟨rfl, rfl⟩ := inj2 h
 refine fin2 Tryd.results13 rfl rfl ?_
 exact ⟨_, rfl, (hI42.ownOut 0 rfl), (by decide), hI42.kp⟩
end Go.Proofs.YtepjkmoipjeghaaDoor
namespace Go.Proofs.YtepjkmoipjeghaaDoor
open Go Go.Sx
namespace S
theorem r_index91 {s : List Int} {f : Int → Option Bool} {g : Int → Bool} (h : ∀ x ∈ s, f x = some (g x)) (hl : s.length ≤ 4611686018427387904) : P.slices_ContainsFunc_67 s f = some (s.any g) := by
  have h1 : ∃ z, P.slices_IndexFunc_91 s f = some z ∧ decide (0 ≤ z) = s.any g := by
    show Ret (P.slices_IndexFunc_91 s f) fun z => decide (0 ≤ z) = s.any g
    unfold P.slices_IndexFunc_91
    refine Ret.bind (Ret.loop (fun t : Int => ∃ n : Nat, t = n ∧ n ≤ s.length ∧ ∀ x ∈ s.take n, g x = false) (fun t => s.length - t.toNat) ⟨0, rfl, Nat.zero_le _, fun x hx => by simp at hx⟩ ?_)
    rintro _ ⟨n, rfl, hn, hp⟩
    refine Ret.cond (fun h1 => ?_) fun h1 => ?_
    · have hlt : n < s.length := by have := of_decide_eq_true h1; omega
      have hy := List.getElem?_eq_getElem hlt
      refine Ret.bind (Ret.ixo hy (Ret.bind (Ret.val (h _ (List.getElem_mem hlt)) ?_)))
      refine Ret.cond (fun h2 => ?_) fun h2 => ?_
      · refine Ret.done (Ret.elimR (Ret.ok ?_))
        rw [decide_eq_true (by omega)]
        exact (List.any_eq_true.2 ⟨_, List.getElem_mem hlt, h2⟩).symm
      · refine Ret.bind (Ret.chk (by omega) (Ret.next ⟨⟨n + 1, by omega, by omega, fun x hx => ?_⟩, by omega⟩))
        rw [List.take_add_one, hy] at hx
        rcases List.mem_append.1 hx with hx | hx
        · exact hp x hx
        · have : x = s[n] := by simpa using hx
          rw [this]; exact h2
    · have hge : n = s.length := by have := of_decide_eq_false h1; omega
      subst hge
      refine Ret.done (Ret.elimL (Ret.ok ?_))
      rw [List.take_length] at hp
      have : s.any g = false := by
        rw [List.any_eq_false]
        intro x hx
        rw [hp x hx]; decide
      rw [this]; decide
  obtain ⟨z, h2, h3⟩ := h1
  unfold P.slices_ContainsFunc_67
  rw [h2, bindS, h3]
theorem r_index58 {s : List Report} {f : Report → Option Bool} {g : Report → Bool} (h : ∀ x ∈ s, f x = some (g x)) (hl : s.length ≤ 4611686018427387904) : P.slices_ContainsFunc_48 s f = some (s.any g) := by
  have h1 : ∃ z, P.slices_IndexFunc_58 s f = some z ∧ decide (0 ≤ z) = s.any g := by
    show Ret (P.slices_IndexFunc_58 s f) fun z => decide (0 ≤ z) = s.any g
    unfold P.slices_IndexFunc_58
    refine Ret.bind (Ret.loop (fun t : Int => ∃ n : Nat, t = n ∧ n ≤ s.length ∧ ∀ x ∈ s.take n, g x = false) (fun t => s.length - t.toNat) ⟨0, rfl, Nat.zero_le _, fun x hx => by simp at hx⟩ ?_)
    rintro _ ⟨n, rfl, hn, hp⟩
    refine Ret.cond (fun h1 => ?_) fun h1 => ?_
    · have hlt : n < s.length := by have := of_decide_eq_true h1; omega
      have hy := List.getElem?_eq_getElem hlt
      refine Ret.bind (Ret.ixo hy (Ret.bind (Ret.val (h _ (List.getElem_mem hlt)) ?_)))
      refine Ret.cond (fun h2 => ?_) fun h2 => ?_
      · refine Ret.done (Ret.elimR (Ret.ok ?_))
        rw [decide_eq_true (by omega)]
        exact (List.any_eq_true.2 ⟨_, List.getElem_mem hlt, h2⟩).symm
      · refine Ret.bind (Ret.chk (by omega) (Ret.next ⟨⟨n + 1, by omega, by omega, fun x hx => ?_⟩, by omega⟩))
        rw [List.take_add_one, hy] at hx
        rcases List.mem_append.1 hx with hx | hx
        · exact hp x hx
        · have : x = s[n] := by simpa using hx
          rw [this]; exact h2
    · have hge : n = s.length := by have := of_decide_eq_false h1; omega
      subst hge
      refine Ret.done (Ret.elimL (Ret.ok ?_))
      rw [List.take_length] at hp
      have : s.any g = false := by
        rw [List.any_eq_false]
        intro x hx
        rw [hp x hx]; decide
      rw [this]; decide
  obtain ⟨z, h2, h3⟩ := h1
  unfold P.slices_ContainsFunc_48
  rw [h2, bindS, h3]
def inB (lo hi n : Int) : Bool := decide (lo ≤ n ∧ n ≤ hi)
theorem p_in {lo hi : Int} {all : List Int} (hl : all.length ≤ 4611686018427387904) : P.account_in lo hi all = some (all.all (inB lo hi)) := by
  unfold P.account_in
  rw [r_index91 (g := fun n => !inB lo hi n) (fun x _ => ?_) hl, bindS]
  · congr 1
    rw [List.any_eq_not_all_not]
    simp
  · unfold P.account_in_in1
    by_cases h : x < lo
    · simp [h, inB] <;> omega
    · by_cases h2 : hi < x
      · simp [h, h2, inB] <;> omega
      · simp [h, h2, inB] <;> omega
theorem p_within {n lo hi : Int} : P.ref03_within n lo hi = some (inB lo hi n) := by
  unfold P.ref03_within
  by_cases h : lo ≤ n
  · by_cases h2 : n ≤ hi <;> simp [h, h2, inB]
  · simp [h, inB]
/-- The greatest Cents of a kind. -/
def most (k : Int) : Int := if k = 1 ∨ k = 7 ∨ k = 9 then 0 else if k = 5 then 10000 else 1000000000000
theorem p_glob {k : Int} (h : 1 ≤ k ∧ k ≤ 9) : ixo glob0 k = some (most k) := by
  have : k = 1 ∨ k = 2 ∨ k = 3 ∨ k = 4 ∨ k = 5 ∨ k = 6 ∨ k = 7 ∨ k = 8 ∨ k = 9 := by omega
  rcases this with rfl | rfl | rfl | rfl | rfl | rfl | rfl | rfl | rfl <;> rfl
def V (r : Report) : Prop := (1 ≤ r.kind ∧ r.kind ≤ 9) ∧ (0 ≤ r.id ∧ r.id ≤ 999999) ∧ (0 ≤ r.source ∧ r.source ≤ 999999) ∧ (0 ≤ r.account ∧ r.account ≤ 999999) ∧ (0 ≤ r.of_ ∧ r.of_ ≤ 999999) ∧ (0 ≤ r.made ∧ r.made ≤ 100000) ∧ (0 ≤ r.about ∧ r.about ≤ 100000) ∧ (0 ≤ r.cents ∧ r.cents ≤ most r.kind) ∧
  (r.kind ≤ 7 → r.of_ = 0) ∧ (8 ≤ r.kind → r.of_ ≠ r.id) ∧ (r.kind = 9 → r.about = 0)
theorem r_right {r : Report} (hr : InR r) {Q : Bool → Prop} (h1 : V r → Q true) (h2 : ¬ V r → Q false) : Ret (P.account_right r) Q := by
  unfold P.account_right
  have hk := hr.2.2.2.2.2.1
  rw [InK.u8] at hk
  refine Ret.bind (Ret.bind (Ret.chk (by omega) ?_))
  rw [p_in (by simp), bindS]
  by_cases c1 : 1 ≤ r.kind ∧ r.kind ≤ 9
  · refine Ret.condF (by simp [inB, c1]) ?_
    rw [p_in (by simp), bindS]
    by_cases c2 : (0 ≤ r.id ∧ r.id ≤ 999999) ∧ (0 ≤ r.source ∧ r.source ≤ 999999) ∧ (0 ≤ r.account ∧ r.account ≤ 999999) ∧ (0 ≤ r.of_ ∧ r.of_ ≤ 999999)
    · refine Ret.condF (by simp [inB, c2]) ?_
      rw [p_in (by simp), bindS]
      by_cases c3 : (0 ≤ r.made ∧ r.made ≤ 100000) ∧ (0 ≤ r.about ∧ r.about ≤ 100000)
      · refine Ret.condF (by simp [inB, c3]) ?_
        rw [p_glob c1, bindS, p_in (by simp), bindS]
        by_cases c4 : 0 ≤ r.cents ∧ r.cents ≤ most r.kind
        · refine Ret.ok (Ret.condF (by simp [inB, c4]) ?_)
          unfold P.account_fact
          rw [bindS]
          refine Ret.cond (fun h => ?_) fun h => ?_
          · have h := of_decide_eq_true h
            have h : r.kind ≤ 7 := h
            by_cases c5 : r.of_ = 0
            · rw [decide_eq_true c5]; exact Ret.ok (h1 ⟨c1, c2.1, c2.2.1, c2.2.2.1, c2.2.2.2, c3.1, c3.2, c4, fun _ => c5, fun h => by omega, fun h => by omega⟩)
            · rw [decide_eq_false c5]; exact Ret.ok (h2 fun hV => c5 (hV.2.2.2.2.2.2.2.2.1 h))
          · have h := of_decide_eq_false h
            have h : ¬ r.kind ≤ 7 := h
            by_cases c6 : r.kind = 9 ∧ r.about ≠ 0
            · refine Ret.bind (Ret.condT (by simp [c6]) (Ret.ok (Ret.condT (by simp [c6]) (Ret.ok (h2 fun hV => c6.2 (hV.2.2.2.2.2.2.2.2.2.2 c6.1))))))
            · have hx : (cond (decide (r.kind = 9)) (some (!decide (r.about = 0))) (some false) : Option Bool) = some false := by
                by_cases c7 : r.kind = 9
                · have : r.about = 0 := by
                    by_cases c8 : r.about = 0
                    · exact c8
                    · exact absurd ⟨c7, c8⟩ c6
                  simp [c7, this]
                · simp [c7]
              refine Ret.bind (Ret.val hx (Ret.condF rfl ?_))
              by_cases c5 : r.of_ = r.id
              · rw [decide_eq_true c5]; exact Ret.ok (h2 fun hV => hV.2.2.2.2.2.2.2.2.2.1 (by omega) c5)
              · rw [decide_eq_false c5]
                refine Ret.ok (h1 ⟨c1, c2.1, c2.2.1, c2.2.2.1, c2.2.2.2, c3.1, c3.2, c4, fun h => by omega, fun _ => c5, fun h9 => ?_⟩)
                by_cases c8 : r.about = 0
                · exact c8
                · exact absurd ⟨h9, c8⟩ c6
        · have hx : ([r.cents].all (inB 0 (most r.kind))) = false := by simp only [List.all_cons, List.all_nil, Bool.and_true, inB]; exact decide_eq_false c4
          rw [hx]
          exact Ret.ok (Ret.condT rfl (Ret.ok (h2 fun hV => c4 hV.2.2.2.2.2.2.2.1)))
      · refine Ret.condT ?_ (Ret.ok (Ret.condT rfl (Ret.ok (h2 fun hV => c3 ⟨hV.2.2.2.2.2.1, hV.2.2.2.2.2.2.1⟩))))
        simp only [List.all_cons, List.all_nil, Bool.and_true, inB, Bool.not_eq_true', ← Bool.decide_and]
        exact decide_eq_false c3
    · refine Ret.condT ?_ (Ret.ok (Ret.condT rfl (Ret.ok (h2 fun hV => c2 ⟨hV.2.1, hV.2.2.1, hV.2.2.2.1, hV.2.2.2.2.1⟩))))
      simp only [List.all_cons, List.all_nil, Bool.and_true, inB, Bool.not_eq_true', ← Bool.decide_and]
      exact decide_eq_false c2
  · refine Ret.condT ?_ (Ret.ok (Ret.condT rfl (Ret.ok (h2 fun hV => c1 hV.1))))
    simp only [List.all_cons, List.all_nil, Bool.and_true, inB, Bool.not_eq_true']
    exact decide_eq_false c1
theorem p_cents {k n : Int} (hk : 1 ≤ k ∧ k ≤ 8) : P.ref03_cents k n = some (inB 0 (most k) n) := by
  unfold P.ref03_cents
  rw [p_within, p_within]
  have : k = 1 ∨ k = 2 ∨ k = 3 ∨ k = 4 ∨ k = 5 ∨ k = 6 ∨ k = 7 ∨ k = 8 := by omega
  rcases this with rfl | rfl | rfl | rfl | rfl | rfl | rfl | rfl <;> simp [most, inB] <;> (rw [Bool.eq_iff_iff]; simp; omega)
theorem r_Valid {r : Report} (hr : InR r) {Q : Bool → Prop} (h1 : V r → Q true) (h2 : ¬ V r → Q false) : Ret (P.ref03_Valid r) Q := by
  unfold P.ref03_Valid
  have hk := hr.2.2.2.2.2.1
  rw [InK.u8] at hk
  have no : ∀ {a b n : Int} {K : Option Bool}, ¬ (a ≤ n ∧ n ≤ b) → Ret K Q → Ret (cond (!inB a b n) K (none : Option Bool)) Q := fun h hK => Ret.condT (by simp only [inB, Bool.not_eq_true']; exact decide_eq_false h) hK
  have yes : ∀ {a b n : Int}, a ≤ n ∧ n ≤ b → (!inB a b n) = false := fun h => by simp [inB, h]
  have nay : ∀ {a b n : Int}, ¬ (a ≤ n ∧ n ≤ b) → (!inB a b n) = true := fun h => by simp only [inB, Bool.not_eq_true']; exact decide_eq_false h
  simp only [p_within, bindS]
  by_cases c1 : 0 ≤ r.id ∧ r.id ≤ 999999
  · rw [yes c1, condF]
    by_cases c2 : 0 ≤ r.source ∧ r.source ≤ 999999
    · rw [yes c2, condF]
      by_cases c3 : 0 ≤ r.account ∧ r.account ≤ 999999
      · rw [yes c3, condF]
        by_cases c4 : 0 ≤ r.made ∧ r.made ≤ 100000
        · rw [yes c4, condF]
          by_cases c5 : 0 ≤ r.about ∧ r.about ≤ 100000
          · rw [yes c5, condF]
            refine Ret.bind (Ret.bind (Ret.chk (by omega) (Ret.ok ?_)))
            by_cases c6 : 1 ≤ r.kind ∧ r.kind ≤ 9
            · rw [yes c6, condF]
              refine Ret.cond (fun h => ?_) fun h => ?_
              · have h := of_decide_eq_true h
                rw [p_cents (by omega), bindS]
                by_cases c7 : 0 ≤ r.cents ∧ r.cents ≤ most r.kind
                · rw [show inB 0 (most r.kind) r.cents = true by simp [inB, c7], condT, bindS]
                  by_cases c8 : r.of_ = 0
                  · rw [decide_eq_true c8]; exact Ret.ok (h1 ⟨c6, c1, c2, c3, by omega, c4, c5, c7, fun _ => c8, fun h => by omega, fun h => by omega⟩)
                  · rw [decide_eq_false c8]; exact Ret.ok (h2 fun hV => c8 (hV.2.2.2.2.2.2.2.2.1 h))
                · rw [show inB 0 (most r.kind) r.cents = false from decide_eq_false c7, condF, bindS]
                  exact Ret.ok (h2 fun hV => c7 hV.2.2.2.2.2.2.2.1)
              · have h := of_decide_eq_false h
                by_cases c7 : 0 ≤ r.of_ ∧ r.of_ ≤ 999999
                · rw [yes c7, condF, bindS]
                  by_cases c8 : r.of_ = r.id
                  · rw [decide_eq_true c8, condT]; exact Ret.ok (h2 fun hV => hV.2.2.2.2.2.2.2.2.2.1 (by omega) c8)
                  · rw [decide_eq_false c8, condF]
                    by_cases c9 : r.kind = 8
                    · rw [decide_eq_true c9, condT]
                      have hm : most r.kind = 1000000000000 := by simp [most, c9]
                      by_cases d : 0 ≤ r.cents ∧ r.cents ≤ 1000000000000
                      · rw [show inB 0 1000000000000 r.cents = true by simp [inB, d]]
                        exact Ret.ok (h1 ⟨c6, c1, c2, c3, c7, c4, c5, by rw [hm]; exact d, fun h => by omega, fun _ => c8, fun h => by omega⟩)
                      · rw [show inB 0 1000000000000 r.cents = false from decide_eq_false d]
                        exact Ret.ok (h2 fun hV => d (by have := hV.2.2.2.2.2.2.2.1; rwa [hm] at this))
                    · rw [decide_eq_false c9, condF]
                      have h9 : r.kind = 9 := by omega
                      have hm : most r.kind = 0 := by simp [most, h9]
                      by_cases d : r.cents = 0
                      · rw [decide_eq_true d, condT, bindS]
                        by_cases e : r.about = 0
                        · rw [decide_eq_true e]; exact Ret.ok (h1 ⟨c6, c1, c2, c3, c7, c4, c5, by omega, fun h => by omega, fun _ => c8, fun _ => e⟩)
                        · rw [decide_eq_false e]; exact Ret.ok (h2 fun hV => e (hV.2.2.2.2.2.2.2.2.2.2 h9))
                      · rw [decide_eq_false d, condF, bindS]
                        exact Ret.ok (h2 fun hV => d (by have := hV.2.2.2.2.2.2.2.1; omega))
                · rw [nay c7, condT, bindS, condT]; exact Ret.ok (h2 fun hV => c7 hV.2.2.2.2.1)
            · rw [nay c6, condT]; exact Ret.ok (h2 fun hV => c6 hV.1)
          · rw [nay c5, condT, bindS, condT]; exact Ret.ok (h2 fun hV => c5 hV.2.2.2.2.2.2.1)
        · rw [nay c4, condT, bindS, condT]; exact Ret.ok (h2 fun hV => c4 hV.2.2.2.2.2.1)
      · rw [nay c3, condT, bindS, condT]; exact Ret.ok (h2 fun hV => c3 hV.2.2.2.1)
    · rw [nay c2, condT, bindS, condT]; exact Ret.ok (h2 fun hV => c2 hV.2.2.1)
  · rw [nay c1, condT, bindS, condT]; exact Ret.ok (h2 fun hV => c1 hV.2.1)
end S
end Go.Proofs.YtepjkmoipjeghaaDoor
namespace Go.Proofs.YtepjkmoipjeghaaDoor
open Go Go.Sx
namespace S
/-- Reports with the same Id are the same. -/
def Cons (l : List Report) : Prop := ∀ a ∈ l, ∀ b ∈ l, a.id = b.id → a = b
open Classical in
noncomputable def chkE (l : List Report) : Int := if 60 < l.length then 4 else if ∃ r ∈ l, ¬ V r then 30 else if ¬ Cons l then 31 else 0
theorem take_mem {l : List Report} {n : Nat} (h : n < l.length) {x : Report} : x ∈ l.take (n + 1) ↔ x ∈ l.take n ∨ x = l[n] := by
  rw [List.take_add_one, List.getElem?_eq_getElem h, List.mem_append]
  exact or_congr Iff.rfl (by simp only [Option.toList, List.mem_singleton])
theorem r_acheck {l : List Report} (hin : ∀ r ∈ l, InR r) {Q : Int → Prop} (h : Q (chkE l)) : Ret (P.account_Check l) Q := by
  classical
  unfold P.account_Check
  unfold chkE at h
  by_cases c1 : 60 < l.length
  · rw [if_pos c1] at h
    exact Ret.condT (decide_eq_true (by omega)) (Ret.ok h)
  rw [if_neg c1] at h
  refine Ret.condF (decide_eq_false (by omega)) ?_
  rw [r_index58 (g := fun r => decide (¬ V r)) (fun r hr => ?_) (by omega), bindS]
  · by_cases c2 : ∃ r ∈ l, ¬ V r
    · rw [if_pos c2] at h
      refine Ret.condT ?_ (Ret.ok h)
      obtain ⟨r, h1, h2⟩ := c2
      exact List.any_eq_true.2 ⟨r, h1, decide_eq_true h2⟩
    rw [if_neg c2] at h
    refine Ret.condF ?_ ?_
    · rw [List.any_eq_false]
      intro r hr hv
      exact c2 ⟨r, hr, of_decide_eq_true hv⟩
    refine Ret.bind (Ret.loop (fun t : Int × FMap Int Report => ∃ n : Nat, t.1 = n ∧ n ≤ l.length ∧ Cons (l.take n) ∧ ∀ i r, t.2 i = some r ↔ r ∈ l.take n ∧ r.id = i) (fun t => l.length - t.1.toNat) ⟨0, rfl, Nat.zero_le _, fun a ha => by simp at ha, fun i r => by simp [fnone]⟩ ?_)
    rintro ⟨_, m⟩ ⟨n, rfl, hn, hc, hm⟩
    dsimp only at hm ⊢
    refine Ret.cond (fun h1 => ?_) fun h1 => ?_
    · have hlt : n < l.length := by have := of_decide_eq_true h1; omega
      refine Ret.bind (Ret.ixo (List.getElem?_eq_getElem hlt) (Ret.bind ?_))
      have eta : ∀ r : Report, Report.mk r.id r.source r.account r.made r.about r.kind r.cents r.of_ = r := fun _ => rfl
      cases hq : m l[n].id with
      | none =>
        refine Ret.ok (Ret.bind (Ret.condF rfl (Ret.ok (Ret.condF rfl (Ret.bind (Ret.chk (by omega) (Ret.next ⟨⟨n + 1, by dsimp only; omega, by omega, ?_, fun i r => ?_⟩, by dsimp only; omega⟩)))))))
        · intro a ha b hb hab
          rw [take_mem hlt] at ha hb
          have no : ∀ x ∈ l.take n, x.id ≠ l[n].id := fun x hx he => by rw [(hm l[n].id x).2 ⟨hx, he⟩] at hq; cases hq
          rcases ha with ha | rfl <;> rcases hb with hb | rfl
          · exact hc a ha b hb hab
          · exact absurd hab (no a ha)
          · exact absurd hab.symm (no b hb)
          · rfl
        · rw [take_mem hlt]
          dsimp only [fput]
          by_cases e : i = l[n].id
          · subst e
            simp only [if_true]
            constructor
            · intro h9
              have := Option.some.inj h9
              exact ⟨.inr this.symm, by rw [← this]⟩
            · rintro ⟨h9 | h9, h8⟩
              · rw [(hm _ r).2 ⟨h9, h8⟩] at hq; cases hq
              · rw [h9]
          · simp only [e, if_false]
            rw [hm]
            constructor
            · rintro ⟨h9, h8⟩; exact ⟨.inl h9, h8⟩
            · rintro ⟨h9 | h9, h8⟩
              · exact ⟨h9, h8⟩
              · exact absurd (by rw [← h8, h9]) e
      | some y =>
        obtain ⟨hy, hyi⟩ := (hm _ y).1 hq
        refine Ret.ok (Ret.bind (Ret.condT rfl (Ret.ok ?_)))
        simp only [Option.getD_some, eta]
        by_cases e : y = l[n]
        · rw [decide_eq_true e]
          refine Ret.condF rfl (Ret.bind (Ret.chk (by omega) (Ret.next ⟨⟨n + 1, by dsimp only; omega, by omega, ?_, fun i r => ?_⟩, by dsimp only; omega⟩)))
          · intro a ha b hb hab
            rw [take_mem hlt] at ha hb
            rw [← e] at ha hb
            have ha : a ∈ l.take n := ha.elim id fun h => h ▸ hy
            have hb : b ∈ l.take n := hb.elim id fun h => h ▸ hy
            exact hc a ha b hb hab
          · rw [take_mem hlt]
            dsimp only [fput]
            by_cases e2 : i = l[n].id
            · subst e2
              simp only [if_true]
              constructor
              · intro h9
                have := Option.some.inj h9
                exact ⟨.inr this.symm, by rw [← this]⟩
              · rintro ⟨h9 | h9, h8⟩
                · rw [hc r h9 y hy (by rw [h8, hyi]), e]
                · rw [h9]
            · simp only [e2, if_false]
              rw [hm]
              constructor
              · rintro ⟨h9, h8⟩; exact ⟨.inl h9, h8⟩
              · rintro ⟨h9 | h9, h8⟩
                · exact ⟨h9, h8⟩
                · exact absurd (by rw [← h8, h9]) e2
        · rw [decide_eq_false e]
          refine Ret.condT rfl (Ret.done (Ret.elimR (Ret.ok ?_)))
          rw [if_pos] at h
          · exact h
          · intro hC
            exact e (hC y (List.mem_of_mem_take hy) l[n] (List.getElem_mem hlt) hyi)
    · have hge : n = l.length := by have := of_decide_eq_false h1; omega
      subst hge
      rw [List.take_length] at hc
      refine Ret.done (Ret.elimL (Ret.ok ?_))
      rwa [if_neg (fun h => h hc)] at h
  · unfold P.account_Check_in1
    have : P.account_right r = some (decide (V r)) := by
      obtain ⟨b, h1, h2⟩ := r_right (hin r hr) (Q := fun b => b = decide (V r)) (fun h => (decide_eq_true h).symm) (fun h => (decide_eq_false h).symm)
      rw [h1, h2]
    show Option.bind (P.account_right r) _ = _
    rw [this, bindS]
    simp
theorem r_rcheck {l : List Report} (hin : ∀ r ∈ l, InR r) {Q : Int → Prop} (h : Q (chkE l)) : Ret (P.ref03_Check l) Q := by
  classical
  unfold P.ref03_Check
  unfold chkE at h
  by_cases c1 : 60 < l.length
  · rw [if_pos c1] at h
    exact Ret.condT (decide_eq_true (by omega)) (Ret.ok h)
  rw [if_neg c1] at h
  refine Ret.condF (decide_eq_false (by omega)) ?_
  refine Ret.bind (Ret.loop (fun t : Int => ∃ n : Nat, t = n ∧ n ≤ l.length ∧ ∀ r ∈ l.take n, V r) (fun t => l.length - t.toNat) ⟨0, rfl, Nat.zero_le _, fun a ha => by simp at ha⟩ ?_)
  rintro _ ⟨n, rfl, hn, hv⟩
  refine Ret.cond (fun h1 => ?_) fun h1 => ?_
  · have hlt : n < l.length := by have := of_decide_eq_true h1; omega
    refine Ret.bind (Ret.ixo (List.getElem?_eq_getElem hlt) (Ret.bind (r_Valid (hin _ (List.getElem_mem hlt)) (fun hV => ?_) fun hV => ?_)))
    · refine Ret.condF rfl (Ret.bind (Ret.chk (by omega) (Ret.next ⟨⟨n + 1, by omega, by omega, fun r hr => ?_⟩, by omega⟩)))
      rw [take_mem hlt] at hr
      rcases hr with hr | rfl
      · exact hv r hr
      · exact hV
    · refine Ret.condT rfl (Ret.done (Ret.elimR (Ret.ok ?_)))
      rwa [if_pos ⟨_, List.getElem_mem hlt, hV⟩] at h
  have hge : n = l.length := by have := of_decide_eq_false h1; omega
  subst hge
  rw [List.take_length] at hv
  rw [if_neg (fun ⟨r, h1, h2⟩ => h2 (hv r h1))] at h
  clear hn h1 hv
  refine Ret.done (Ret.elimL (Ret.bind (Ret.loop (fun t : Int => ∃ n : Nat, t = n ∧ n ≤ l.length ∧ Cons (l.take n)) (fun t => l.length - t.toNat) ⟨0, rfl, Nat.zero_le _, fun a ha => by simp at ha⟩ ?_)))
  rintro _ ⟨n, rfl, hn, hc⟩
  refine Ret.cond (fun h1 => ?_) fun h1 => ?_
  · have hlt : n < l.length := by have := of_decide_eq_true h1; omega
    refine Ret.bind (Ret.loop (fun t : Int => ∃ k : Nat, t = k ∧ k ≤ n ∧ ∀ r ∈ l.take k, r.id = l[n].id → r = l[n]) (fun t => n - t.toNat) ⟨0, rfl, Nat.zero_le _, fun a ha => by simp at ha⟩ ?_)
    rintro _ ⟨k, rfl, hk, hp⟩
    refine Ret.cond (fun h2 => ?_) fun h2 => ?_
    · have hkn : k < n := by have := of_decide_eq_true h2; omega
      have hkl : k < l.length := by omega
      have g1 := List.getElem?_eq_getElem hlt
      have g2 := List.getElem?_eq_getElem hkl
      refine Ret.bind (Ret.bind (Ret.ixo g1 (Ret.bind (Ret.ixo g2 ?_))))
      by_cases e : l[n].id = l[k].id
      · rw [decide_eq_true e]
        refine Ret.condT rfl (Ret.bind (Ret.ixo g1 (Ret.bind (Ret.ixo g2 (Ret.ok ?_)))))
        by_cases e2 : l[n] = l[k]
        · rw [decide_eq_true e2]
          refine Ret.condF rfl (Ret.bind (Ret.chk (by omega) (Ret.next ⟨⟨k + 1, by omega, by omega, fun r hr he => ?_⟩, by omega⟩)))
          rw [take_mem hkl] at hr
          rcases hr with hr | rfl
          · exact hp r hr he
          · exact e2.symm
        · rw [decide_eq_false e2]
          refine Ret.condT rfl (Ret.done (Ret.elimR (Ret.done (Ret.elimR (Ret.ok ?_)))))
          rwa [if_pos (fun hC => e2 (hC _ (List.getElem_mem hlt) _ (List.getElem_mem hkl) e))] at h
      · rw [decide_eq_false e]
        refine Ret.condF rfl (Ret.ok (Ret.condF rfl (Ret.bind (Ret.chk (by omega) (Ret.next ⟨⟨k + 1, by omega, by omega, fun r hr he => ?_⟩, by omega⟩)))))
        rw [take_mem hkl] at hr
        rcases hr with hr | rfl
        · exact hp r hr he
        · exact absurd he.symm e
    · have hge : k = n := by have := of_decide_eq_false h2; omega
      subst hge
      refine Ret.done (Ret.elimL (Ret.bind (Ret.chk (by omega) (Ret.next ⟨⟨k + 1, by omega, by omega, ?_⟩, by omega⟩))))
      intro a ha b hb hab
      rw [take_mem hlt] at ha hb
      rcases ha with ha | rfl <;> rcases hb with hb | rfl
      · exact hc a ha b hb hab
      · exact hp a ha hab
      · exact (hp b hb hab.symm).symm
      · rfl
  · have hge : n = l.length := by have := of_decide_eq_false h1; omega
    subst hge
    rw [List.take_length] at hc
    refine Ret.done (Ret.elimL (Ret.ok ?_))
    rwa [if_neg (fun h => h hc)] at h
/-- Where a report is. -/
theorem r_At {l : List Report} (hl : l.length ≤ 1000000) {i : Int} {Q : Int → Prop} (h1 : ∀ (n : Nat) r, l[n]? = some r → r.id = i → Q n) (h2 : (∀ r ∈ l, r.id ≠ i) → Q (-1)) : Ret (P.ref03_At l i) Q := by
  unfold P.ref03_At
  refine Ret.bind (Ret.loop (fun t : Int => ∃ n : Nat, t = n ∧ n ≤ l.length ∧ ∀ r ∈ l.take n, r.id ≠ i) (fun t => l.length - t.toNat) ⟨0, rfl, Nat.zero_le _, fun a ha => by simp at ha⟩ ?_)
  rintro _ ⟨n, rfl, hn, hv⟩
  refine Ret.cond (fun h => ?_) fun h => ?_
  · have hlt : n < l.length := by have := of_decide_eq_true h; omega
    have g := List.getElem?_eq_getElem hlt
    refine Ret.bind (Ret.ixo g ?_)
    refine Ret.cond (fun e => ?_) fun e => ?_
    · exact Ret.done (Ret.elimR (Ret.ok (h1 n _ g (of_decide_eq_true e))))
    · refine Ret.bind (Ret.chk (by omega) (Ret.next ⟨⟨n + 1, by omega, by omega, fun r hr => ?_⟩, by omega⟩))
      rw [take_mem hlt] at hr
      rcases hr with hr | rfl
      · exact hv r hr
      · exact of_decide_eq_false e
  · have hge : n = l.length := by have := of_decide_eq_false h; omega
    subst hge
    rw [List.take_length] at hv
    exact Ret.done (Ret.elimL (Ret.ok (h2 hv)))
/-- What is known. -/
structure Kn (l : List Report) (known : Int) (K : List Report) : Prop where
  mem : ∀ r, r ∈ K ↔ r ∈ l ∧ r.made ≤ known
  nd : (K.map (·.id)).Nodup
  len : K.length ≤ l.length
theorem r_Known {l : List Report} (hl : l.length ≤ 60) (hC : Cons l) {known : Int} {Q : List Report → Prop} (h : ∀ K, Kn l known K → Q K) : Ret (P.ref03_Known l known) Q := by
  unfold P.ref03_Known
  refine Ret.bind (Ret.loop (fun t : List Report × Int => ∃ n : Nat, t.2 = n ∧ n ≤ l.length ∧ (∀ r, r ∈ t.1 ↔ r ∈ l.take n ∧ r.made ≤ known) ∧ (t.1.map (·.id)).Nodup ∧ t.1.length ≤ n) (fun t => l.length - t.2.toNat) ⟨0, rfl, Nat.zero_le _, by simp, by simp, Nat.zero_le _⟩ ?_)
  rintro ⟨K, _⟩ ⟨n, rfl, hn, hm, hnd, hlen⟩
  dsimp only at hm hnd hlen ⊢
  refine Ret.cond (fun h1 => ?_) fun h1 => ?_
  · have hlt : n < l.length := by have := of_decide_eq_true h1; omega
    have g := List.getElem?_eq_getElem hlt
    refine Ret.bind (Ret.bind (Ret.bind (Ret.ixo g ?_)))
    have stay : (l[n].made ≤ known → l[n] ∈ K) → Ret (Option.bind (chk .i64 ((n : Int) + 1)) fun n68 => some (Sum.inl (K, n68) : (List Report × Int) ⊕ List Report)) (Nxt (fun s' : List Report × Int => (∃ n : Nat, s'.2 = n ∧ n ≤ l.length ∧ (∀ r, r ∈ s'.1 ↔ r ∈ l.take n ∧ r.made ≤ known) ∧ (s'.1.map (·.id)).Nodup ∧ s'.1.length ≤ n) ∧ l.length - s'.2.toNat < l.length - (n : Int).toNat) fun a => Ret (some a) Q) := fun hs => by
      refine Ret.bind (Ret.chk (by omega) (Ret.next ⟨⟨n + 1, by dsimp only; omega, by omega, fun r => ?_, hnd, by dsimp only; omega⟩, by dsimp only; omega⟩))
      dsimp only
      rw [take_mem hlt, hm]
      constructor
      · rintro ⟨h1, h2⟩; exact ⟨.inl h1, h2⟩
      · rintro ⟨h1 | h1, h2⟩
        · exact ⟨h1, h2⟩
        · subst h1; exact (hm _).1 (hs h2)
    refine Ret.cond (fun e => ?_) fun e => ?_
    · have e := of_decide_eq_true e
      refine Ret.bind (Ret.ixo g (Ret.bind (r_At (by omega) (fun k r hk he => ?_) fun hno => ?_)))
      · refine Ret.ok ?_
        rw [decide_eq_false (by omega)]
        refine Ret.bind (Ret.condF rfl (Ret.ok (Ret.ok (stay fun _ => ?_))))
        have hr := List.mem_of_getElem? hk
        have := hC r (List.mem_of_mem_take ((hm r).1 hr).1) l[n] (List.getElem_mem hlt) he
        rw [← this]; exact hr
      · refine Ret.ok ?_
        rw [decide_eq_true (by omega)]
        refine Ret.bind (Ret.condT rfl (Ret.bind (Ret.ixo g (Ret.bind (Ret.appo (by simp; omega) (by simp; omega) (Ret.ok (Ret.ok (Ret.bind (Ret.chk (by omega) (Ret.next ⟨⟨n + 1, by dsimp only; omega, by omega, fun r => ?_, ?_, by simp; omega⟩, by dsimp only; omega⟩))))))))))
        · dsimp only
          rw [take_mem hlt, List.mem_append, hm]
          constructor
          · rintro (⟨h1, h2⟩ | h1)
            · exact ⟨.inl h1, h2⟩
            · have : r = l[n] := by simpa using h1
              exact ⟨.inr this, by rw [this]; exact e⟩
          · rintro ⟨h1 | h1, h2⟩
            · exact .inl ⟨h1, h2⟩
            · exact .inr (by simp [h1])
        · dsimp only
          rw [List.map_append, List.nodup_append]
          refine ⟨hnd, by simp, fun x hx y hy => ?_⟩
          obtain ⟨r, hr, rfl⟩ := List.mem_map.1 hx
          have : y = l[n].id := by simpa using hy
          rw [this]; exact hno r hr
    · have e := of_decide_eq_false e
      exact Ret.ok (Ret.bind (Ret.condF rfl (Ret.ok (Ret.ok (stay fun h => absurd h e)))))
  · have hge : n = l.length := by have := of_decide_eq_false h1; omega
    subst hge
    rw [List.take_length] at hm
    exact Ret.done (Ret.ok (h K ⟨hm, hnd, hlen⟩))
end S
end Go.Proofs.YtepjkmoipjeghaaDoor
namespace Go.Proofs.YtepjkmoipjeghaaDoor
open Go Go.Sx
namespace S
def Aim (K : List Report) (r o : Report) : Prop := o ∈ K ∧ o.id = r.of_ ∧ o.source = r.source ∧ o.account = r.account
def Wd (K : List Report) (i : Int) (r : Report) : Prop := r ∈ K ∧ r.kind = 9 ∧ r.of_ = i ∧ ∃ o, Aim K r o ∧ o.kind ≠ 9
/-- The least Id of those of which p is so, of some. -/
def Least (p : Report → Prop) (l : List Report) : Option Int → Prop
  | none => ∀ r ∈ l, ¬ p r
  | some z => ∃ r ∈ l, p r ∧ r.id = z ∧ ∀ s ∈ l, p s → z ≤ s.id
/-- The latest one of those of which p is so, of some. -/
def Latest (p : Report → Prop) (l : List Report) : Option Report → Prop
  | none => ∀ r ∈ l, ¬ p r
  | some r => r ∈ l ∧ p r ∧ ∀ s ∈ l, p s → s.made < r.made ∨ s.made = r.made ∧ s.id ≤ r.id
def WdR (K : List Report) (i : Int) (z : Option Int) : Prop := Least (Wd K i) K z
def Co (K : List Report) (o r : Report) : Prop := r.kind = 8 ∧ Aim K r o ∧ (0 ≤ r.cents ∧ r.cents ≤ most o.kind) ∧ WdR K r.id none
/-- What was known, with what is so of it. -/
structure Ok (K : List Report) : Prop where
  v : ∀ r ∈ K, V r
  nd : (K.map (·.id)).Nodup
  len : K.length ≤ 60
theorem Ok.one {K : List Report} (h : Ok K) {a b : Report} (ha : a ∈ K) (hb : b ∈ K) (e : a.id = b.id) : a = b := by
  obtain ⟨i, hi⟩ := List.getElem?_of_mem ha
  obtain ⟨j, hj⟩ := List.getElem?_of_mem hb
  have hi' : (K.map (·.id))[i]? = some a.id := by simp [hi]
  have hj' : (K.map (·.id))[j]? = some a.id := by simp [hj, e]
  have : i = j := (List.getElem?_inj (get_lt hi') h.nd).1 (hi'.trans hj'.symm)
  subst this
  rw [hi] at hj
  exact Option.some.inj hj
theorem Least.uniq {p : Report → Prop} {l : List Report} {a b : Option Int} (h1 : Least p l a) (h2 : Least p l b) : a = b := by
  cases a with
  | none =>
    cases b with
    | none => rfl
    | some y => obtain ⟨r, hr, hp, _⟩ := h2; exact absurd hp (h1 r hr)
  | some x =>
    cases b with
    | none => obtain ⟨r, hr, hp, _⟩ := h1; exact absurd hp (h2 r hr)
    | some y =>
      obtain ⟨r, hr, hp, rfl, hx⟩ := h1
      obtain ⟨s, hs, hq, rfl, hy⟩ := h2
      have := hx s hs hq
      have := hy r hr hp
      rw [show r.id = s.id by omega]
theorem Least.congr {p q : Report → Prop} {l l' : List Report} {a : Option Int} (h : Least p l a) (e : ∀ r, r ∈ l ∧ p r ↔ r ∈ l' ∧ q r) : Least q l' a := by
  cases a with
  | none =>
    intro r hr hq
    obtain ⟨h1, h2⟩ := (e r).2 ⟨hr, hq⟩
    exact h r h1 h2
  | some x =>
    obtain ⟨r, hr, hp, hx, hm⟩ := h
    obtain ⟨h1, h2⟩ := (e r).1 ⟨hr, hp⟩
    exact ⟨r, h1, h2, hx, fun s hs hq => by
      obtain ⟨h3, h4⟩ := (e s).2 ⟨hs, hq⟩
      exact hm s h3 h4⟩
theorem Latest.congr {p q : Report → Prop} {l l' : List Report} {a : Option Report} (h : Latest p l a) (e : ∀ r, r ∈ l ∧ p r ↔ r ∈ l' ∧ q r) : Latest q l' a := by
  cases a with
  | none =>
    intro r hr hq
    obtain ⟨h1, h2⟩ := (e r).2 ⟨hr, hq⟩
    exact h r h1 h2
  | some x =>
    obtain ⟨hr, hp, hm⟩ := h
    obtain ⟨h1, h2⟩ := (e x).1 ⟨hr, hp⟩
    exact ⟨h1, h2, fun s hs hq => by
      obtain ⟨h3, h4⟩ := (e s).2 ⟨hs, hq⟩
      exact hm s h3 h4⟩
theorem Latest.uniq {K : List Report} (hK : Ok K) {p : Report → Prop} {a b : Option Report} (h1 : Latest p K a) (h2 : Latest p K b) : a = b := by
  cases a with
  | none =>
    cases b with
    | none => rfl
    | some y => exact absurd h2.2.1 (h1 y h2.1)
  | some x =>
    cases b with
    | none => exact absurd h1.2.1 (h2 x h1.1)
    | some y =>
      obtain ⟨hx, px, mx⟩ := h1
      obtain ⟨hy, py, my⟩ := h2
      have := mx y hy py
      have := my x hx px
      rw [hK.one hx hy (by omega)]
/-- One more is looked at. -/
theorem Least.push {p : Report → Prop} {l : List Report} {z : Option Int} (h : Least p l z) (x : Report) : (¬ p x → Least p (l ++ [x]) z) ∧ (p x → (z = none ∨ ∃ y, z = some y ∧ x.id < y) → Least p (l ++ [x]) (some x.id)) ∧ (p x → ∀ y, z = some y → y ≤ x.id → Least p (l ++ [x]) z) := by
  have mem : ∀ s, s ∈ l ++ [x] ↔ s ∈ l ∨ s = x := fun s => by simp
  refine ⟨fun hx => ?_, fun hx hz => ?_, fun hx y hy hle => ?_⟩
  · cases z with
    | none =>
      intro r hr
      rcases (mem r).1 hr with h1 | rfl
      · exact h r h1
      · exact hx
    | some y =>
      obtain ⟨r, hr, hp, he, hm⟩ := h
      exact ⟨r, (mem r).2 (.inl hr), hp, he, fun s hs hq => by
        rcases (mem s).1 hs with h1 | rfl
        · exact hm s h1 hq
        · exact absurd hq hx⟩
  · refine ⟨x, (mem x).2 (.inr rfl), hx, rfl, fun s hs hq => ?_⟩
    rcases (mem s).1 hs with h1 | rfl
    · rcases hz with rfl | ⟨y, rfl, hlt⟩
      · exact absurd hq (h s h1)
      · obtain ⟨r, hr, hp, he, hm⟩ := h
        have := hm s h1 hq
        omega
    · exact Int.le_refl _
  · subst hy
    obtain ⟨r, hr, hp, he, hm⟩ := h
    exact ⟨r, (mem r).2 (.inl hr), hp, he, fun s hs hq => by
      rcases (mem s).1 hs with h1 | rfl
      · exact hm s h1 hq
      · exact hle⟩
theorem Latest.push {p : Report → Prop} {l : List Report} {z : Option Report} (h : Latest p l z) (x : Report) : (¬ p x → Latest p (l ++ [x]) z) ∧ (p x → (z = none ∨ ∃ y, z = some y ∧ (y.made < x.made ∨ y.made = x.made ∧ y.id < x.id)) → Latest p (l ++ [x]) (some x)) ∧ (p x → ∀ y, z = some y → ¬ (y.made < x.made ∨ y.made = x.made ∧ y.id < x.id) → Latest p (l ++ [x]) z) := by
  have mem : ∀ s, s ∈ l ++ [x] ↔ s ∈ l ∨ s = x := fun s => by simp
  refine ⟨fun hx => ?_, fun hx hz => ?_, fun hx y hy hle => ?_⟩
  · cases z with
    | none =>
      intro r hr
      rcases (mem r).1 hr with h1 | rfl
      · exact h r h1
      · exact hx
    | some y =>
      obtain ⟨hr, hp, hm⟩ := h
      exact ⟨(mem y).2 (.inl hr), hp, fun s hs hq => by
        rcases (mem s).1 hs with h1 | rfl
        · exact hm s h1 hq
        · exact absurd hq hx⟩
  · refine ⟨(mem x).2 (.inr rfl), hx, fun s hs hq => ?_⟩
    rcases (mem s).1 hs with h1 | rfl
    · rcases hz with rfl | ⟨y, rfl, hlt⟩
      · exact absurd hq (h s h1)
      · have := h.2.2 s h1 hq
        omega
    · omega
  · subst hy
    obtain ⟨hr, hp, hm⟩ := h
    exact ⟨(mem y).2 (.inl hr), hp, fun s hs hq => by
      rcases (mem s).1 hs with h1 | rfl
      · exact hm s h1 hq
      · omega⟩
/-! The reference. -/
end S
end Go.Proofs.YtepjkmoipjeghaaDoor
namespace Go.Proofs.YtepjkmoipjeghaaDoor
open Go Go.Sx
namespace S
def Rep (K : List Report) (m : FMap Int Report) : Prop := ∀ i r, m i = some r ↔ r ∈ K ∧ r.id = i
theorem foldM_inv {S β : Type} {f : S → β → Option S} (I : List β → S → Prop) : ∀ (l pre : List β) (s : S), I pre s → (∀ pre x s, x ∈ l → I pre s → ∃ s', f s x = some s' ∧ I (pre ++ [x]) s') → ∃ s', l.foldlM f s = some s' ∧ I (pre ++ l) s'
  | [], pre, s, h, _ => ⟨s, rfl, by simpa using h⟩
  | x :: l, pre, s, h, hs => by
    obtain ⟨s1, h1, h2⟩ := hs pre x s (List.mem_cons_self ..) h
    obtain ⟨s2, h3, h4⟩ := foldM_inv I l (pre ++ [x]) s1 h2 fun pre y s hy => hs pre y s (List.mem_cons_of_mem _ hy)
    refine ⟨s2, ?_, by simpa using h4⟩
    rw [List.foldlM_cons, h1]; exact h3
theorem Rep.lists {K : List Report} (hK : Ok K) {m : FMap Int Report} (h : Rep K m) : Lists m (K.map fun r => (r.id, r)) := by
  refine ⟨?_, fun a y => ?_⟩
  · rw [List.map_map]; exact hK.nd
  · rw [h, List.mem_map]
    constructor
    · rintro ⟨r, hr, e⟩; cases e; exact ⟨hr, rfl⟩
    · rintro ⟨hr, rfl⟩; exact ⟨y, hr, rfl⟩
theorem Rep.mem {K : List Report} {m : FMap Int Report} (h : Rep K m) {l : List (Int × Report)} (hl : Lists m l) (r : Report) : r ∈ l.map (·.2) ↔ r ∈ K := by
  rw [List.mem_map]
  constructor
  · rintro ⟨⟨a, y⟩, hy, rfl⟩
    exact ((h a y).1 ((hl.2 a y).1 hy)).1
  · intro hr
    exact ⟨(r.id, r), (hl.2 _ _).2 ((h _ _).2 ⟨hr, rfl⟩), rfl⟩
theorem r_anyM {S κ α : Type} {f : S → κ × α → Option S} {m : FMap κ α} {l0 : List (κ × α)} (h0 : Lists m l0) {s0 : S} (Spec : S → Prop) (hall : ∀ l, Lists m l → ∃ s, l.foldlM f s0 = some s ∧ Spec s) (uniq : ∀ s s', Spec s → Spec s' → s = s') {Q : S → Prop} (h : ∀ s, Spec s → Q s) : Ret (anyM f m s0) Q := by
  obtain ⟨r, hr, hs⟩ := hall _ h0
  exact ⟨r, anyM_of h0 fun l hl => by
    obtain ⟨s, h1, h2⟩ := hall l hl
    rw [h1, uniq s r h2 hs], h r hs⟩
theorem p_aim0 {m : FMap Int Report} {r : Report} (h : m r.of_ = none) : P.account_store_aim (Store.mk m) r = some (Report.mk 0 0 0 0 0 0 0 0, false) := by
  unfold P.account_store_aim
  simp [h]
theorem p_aimS {m : FMap Int Report} {r o : Report} (h : m r.of_ = some o) : P.account_store_aim (Store.mk m) r = some (o, decide (o.source = r.source ∧ o.account = r.account)) := by
  unfold P.account_store_aim
  by_cases c1 : o.source = r.source
  · simp [h, c1]
    rw [← c1]
  · simp [h, c1]
section
variable {K : List Report} (hK : Ok K) {m : FMap Int Report} (hm : Rep K m)
include hK hm
theorem r_aim {r : Report} {Q : Report × Bool → Prop} (h1 : ∀ o, Aim K r o → Q (o, true)) (h2 : ∀ o', (∀ o, ¬ Aim K r o) → Q (o', false)) : Ret (P.account_store_aim (Store.mk m) r) Q := by
  rcases hq : m r.of_ with _ | o
  · rw [p_aim0 hq]
    refine Ret.ok (h2 _ fun o ha => ?_)
    rw [(hm _ o).2 ⟨ha.1, ha.2.1⟩] at hq; cases hq
  · obtain ⟨ho, he⟩ := (hm _ o).1 hq
    rw [p_aimS hq]
    by_cases c : o.source = r.source ∧ o.account = r.account
    · rw [decide_eq_true c]; exact Ret.ok (h1 o ⟨ho, he, c.1, c.2⟩)
    · rw [decide_eq_false c]
      exact Ret.ok (h2 _ fun o' ha => c (by rw [← hK.one ha.1 ho (by rw [ha.2.1, he])]; exact ⟨ha.2.2.1, ha.2.2.2⟩))
end
def cmpI (x y : Int) : Int := if x < y then -1 else if y < x then 1 else 0
theorem p_cmp {x y : Int} : P.cmp_Compare_72 x y = some (cmpI x y) := by
  unfold P.cmp_Compare_72 P.cmp_isNaN_92 cmpI
  by_cases h : x < y
  · simp [h]
  · by_cases h2 : y < x
    · simp [h, h2]
    · simp [h, h2]
theorem r_Or {a b : Int} {Q : Int → Prop} (h : Q (if a = 0 then b else a)) : Ret (P.cmp_Or_71 [a, b]) Q := by
  unfold P.cmp_Or_71
  refine Ret.bind (Ret.loop (fun t : Int => t = 0 ∨ t = 1 ∧ a = 0 ∨ t = 2 ∧ a = 0 ∧ b = 0) (fun t => 2 - t.toNat) (.inl rfl) ?_)
  rintro _ (rfl | ⟨rfl, rfl⟩ | ⟨rfl, rfl, rfl⟩)
  · refine Ret.condT rfl (Ret.bind (Ret.val (show ixo [a, b] 0 = some a from rfl) ?_))
    by_cases c : a = 0
    · rw [decide_eq_true c]
      exact Ret.condF rfl (Ret.bind (Ret.chk (by omega) (Ret.next ⟨.inr (.inl ⟨rfl, c⟩), by decide⟩)))
    · rw [decide_eq_false c]
      refine Ret.condT rfl (Ret.done (Ret.elimR (Ret.ok ?_)))
      rwa [if_neg c] at h
  · refine Ret.condT rfl (Ret.bind (Ret.val (show ixo [0, b] 1 = some b from rfl) ?_))
    rw [if_pos rfl] at h
    by_cases c : b = 0
    · rw [decide_eq_true c]
      exact Ret.condF rfl (Ret.bind (Ret.chk (by omega) (Ret.next ⟨.inr (.inr ⟨rfl, rfl, c⟩), by decide⟩)))
    · rw [decide_eq_false c]
      exact Ret.condT rfl (Ret.done (Ret.elimR (Ret.ok h)))
  · refine Ret.condF rfl (Ret.done (Ret.elimL (Ret.ok ?_)))
    simpa using h
/-- What a fact's correction is. -/
def Co' (K : List Report) (i : Int) (r : Report) : Prop := ∃ o ∈ K, o.id = i ∧ o.kind ≤ 7 ∧ WdR K i none ∧ Co K o r
structure Dk (K : List Report) (d : Desk) : Prop where
  reports : Rep K d.store.reports
  gone : ∀ i, WdR K i (d.gone i)
  fixed : ∀ i, ∃ z : Option Report, d.fixed i = z.map (·.id) ∧ Latest (Co' K i) K z
theorem r_open {l : List Report} (hin : ∀ r ∈ l, V r) (hl : l.length ≤ 60) (hC : Cons l) {known : Int} {K : List Report} (hk : Kn l known K) {Q : Desk → Prop} (h : ∀ d, Dk K d → Q d) : Ret (P.account_open l known) Q := by
  have hK : Ok K := ⟨fun r hr => hin r ((hk.mem r).1 hr).1, hk.nd, Nat.le_trans hk.len hl⟩
  unfold P.account_open
  refine Ret.bind (Ret.loop (fun t : Int × FMap Int Report => ∃ n : Nat, t.1 = n ∧ n ≤ l.length ∧ ∀ i r, t.2 i = some r ↔ (r ∈ l.take n ∧ r.made ≤ known) ∧ r.id = i) (fun t => l.length - t.1.toNat) ⟨0, rfl, Nat.zero_le _, fun i r => by simp [fnone]⟩ ?_)
  rintro ⟨_, m⟩ ⟨n, rfl, hn, hm⟩
  dsimp only at hm ⊢
  refine Ret.cond (fun h1 => ?_) fun h1 => ?_
  · have hlt : n < l.length := by have := of_decide_eq_true h1; omega
    refine Ret.bind (Ret.bind (Ret.ixo (List.getElem?_eq_getElem hlt) (Ret.bind ?_)))
    by_cases c : l[n].made ≤ known
    · rw [decide_eq_true c]
      refine Ret.condT rfl (Ret.ok (Ret.ok (Ret.bind (Ret.chk (by omega) (Ret.next ⟨⟨n + 1, by dsimp only; omega, by omega, fun i r => ?_⟩, by dsimp only; omega⟩)))))
      rw [take_mem hlt]
      show fput m l[n].id l[n] i = some r ↔ _
      unfold fput
      by_cases e : i = l[n].id
      · subst e
        simp only [if_true]
        constructor
        · intro h9
          have := Option.some.inj h9
          exact ⟨⟨.inr this.symm, by rw [← this]; exact c⟩, by rw [← this]⟩
        · rintro ⟨⟨h9 | h9, h8⟩, h7⟩
          · rw [hC r (List.mem_of_mem_take h9) l[n] (List.getElem_mem hlt) h7]
          · rw [h9]
      · simp only [e, if_false]
        rw [hm]
        constructor
        · rintro ⟨⟨h9, h8⟩, h7⟩; exact ⟨⟨.inl h9, h8⟩, h7⟩
        · rintro ⟨⟨h9 | h9, h8⟩, h7⟩
          · exact ⟨⟨h9, h8⟩, h7⟩
          · exact absurd (by rw [← h7, h9]) e
    · rw [decide_eq_false c]
      refine Ret.condF rfl (Ret.ok (Ret.ok (Ret.bind (Ret.chk (by omega) (Ret.next ⟨⟨n + 1, by dsimp only; omega, by omega, fun i r => ?_⟩, by dsimp only; omega⟩)))))
      rw [take_mem hlt]
      dsimp only
      rw [hm]
      constructor
      · rintro ⟨⟨h9, h8⟩, h7⟩; exact ⟨⟨.inl h9, h8⟩, h7⟩
      · rintro ⟨⟨h9 | h9, h8⟩, h7⟩
        · exact ⟨⟨h9, h8⟩, h7⟩
        · exact absurd (h9 ▸ h8) c
  have hge : n = l.length := by have := of_decide_eq_false h1; omega
  subst hge
  rw [List.take_length] at hm
  have hm : Rep K m := fun i r => by rw [hm, hk.mem]
  refine Ret.done ?_
  have hl0 := hm.lists hK
  clear hn h1
  have mem1 : ∀ {lx : List (Int × Report)}, Lists m lx → ∀ x ∈ lx, x.2 ∈ K := fun hlx x hx => (hm.mem hlx x.2).1 (List.mem_map.2 ⟨x, hx, rfl⟩)
  refine Ret.bind (r_anyM hl0 (fun s : FMap Int Int => ∀ i, WdR K i (s i)) (fun lx hlx => ?_) (fun s s' hs hs' => funext fun i => (hs i).uniq (hs' i)) fun g hg => ?_)
  · refine Exists.imp (fun s (h : _ ∧ _) => ⟨h.1, fun i => (h.2 i).congr fun r => by rw [List.nil_append, hm.mem hlx]⟩) (foldM_inv (fun (pre : List (Int × Report)) (s : FMap Int Int) => ∀ i, Least (Wd K i) (pre.map (·.2)) (s i)) lx [] (fnone : FMap Int Int) (fun i r hr => by simp at hr) (fun pre x s hx hI => ?_))
    · obtain ⟨xk, r⟩ := x
      have hr : r ∈ K := mem1 hlx _ hx
      have no : (∀ i, ¬ Wd K i r) → ∀ i, Least (Wd K i) ((pre ++ [(xk, r)]).map (·.2)) (s i) := fun hn i => by rw [List.map_append]; exact ((hI i).push r).1 (hn i)
      show Ret _ fun s' : FMap Int Int => ∀ i, Least (Wd K i) ((pre ++ [(xk, r)]).map (·.2)) (s' i)
      refine Ret.bind (Ret.bind (r_aim hK hm (fun o ha => ?_) fun o' hna => ?_))
      · dsimp only
        by_cases c1 : r.kind = 9
        · rw [decide_eq_true c1]
          by_cases c2 : o.kind = 9
          · rw [decide_eq_true c2]
            refine Ret.bind (Ret.condT rfl (Ret.condT rfl (Ret.ok (Ret.bind (Ret.condF rfl (Ret.ok (Ret.ok (Ret.ok (no fun i hw => ?_)))))))))
            obtain ⟨_, _, h3, o2, ha2, h9⟩ := hw
            exact h9 (by rw [hK.one ha2.1 ha.1 (by rw [ha2.2.1, ha.2.1])]; exact c2)
          · rw [decide_eq_false c2]
            have hw : Wd K o.id r := ⟨hr, c1, ha.2.1.symm, o, ha, c2⟩
            have oth : ∀ i, i ≠ o.id → ¬ Wd K i r := fun i hi hw => hi (by rw [ha.2.1, hw.2.2.1])
            refine Ret.bind (Ret.condT rfl (Ret.condT rfl (Ret.ok (Ret.bind (Ret.condT rfl (Ret.bind (Ret.ok (Ret.bind ?_))))))))
            have put : (s o.id = none ∨ ∃ y, s o.id = some y ∧ r.id < y) → ∀ i, Least (Wd K i) ((pre ++ [(xk, r)]).map (·.2)) (fput s o.id r.id i) := fun hz i => by
              rw [List.map_append]
              unfold fput
              by_cases e : i = o.id
              · subst e; rw [if_pos rfl]; exact ((hI _).push r).2.1 hw hz
              · rw [if_neg e]; exact ((hI i).push r).1 (oth i e)
            cases hz : s o.id with
            | none => exact Ret.condT rfl (Ret.ok (Ret.bind (Ret.condT rfl (Ret.ok (Ret.ok (Ret.ok (Ret.ok (put (.inl hz)))))))))
            | some y =>
              refine Ret.condF rfl (Ret.ok ?_)
              by_cases c3 : r.id < y
              · rw [decide_eq_true (show r.id < (some y).getD 0 from c3)]
                exact Ret.bind (Ret.condT rfl (Ret.ok (Ret.ok (Ret.ok (Ret.ok (put (.inr ⟨y, hz, c3⟩)))))))
              · rw [decide_eq_false (show ¬ r.id < (some y).getD 0 from c3)]
                refine Ret.bind (Ret.condF rfl (Ret.ok (Ret.ok (Ret.ok (Ret.ok fun i => ?_)))))
                rw [List.map_append]
                by_cases e : i = o.id
                · subst e; exact ((hI _).push r).2.2 hw y hz (by omega)
                · exact ((hI i).push r).1 (oth i e)
        · rw [decide_eq_false c1]
          exact Ret.bind (Ret.condF rfl (Ret.ok (Ret.bind (Ret.condF rfl (Ret.ok (Ret.ok (Ret.ok (no fun i hw => c1 hw.2.1))))))))
      · dsimp only
        have hn : ∀ i, ¬ Wd K i r := fun i hw => by
          obtain ⟨_, _, _, o2, ha2, _⟩ := hw
          exact hna o2 ha2
        refine Ret.bind (Ret.cond (fun _ => Ret.condF rfl (Ret.ok ?_)) fun _ => Ret.ok ?_) <;> exact Ret.bind (Ret.condF rfl (Ret.ok (Ret.ok (Ret.ok (no hn)))))
  refine Ret.bind (r_anyM hl0 (fun s : FMap Int Int => ∀ i, ∃ z : Option Report, s i = z.map (·.id) ∧ Latest (Co' K i) K z) (fun lx hlx => ?_) (fun s s' hs hs' => funext fun i => ?_) fun f hf => ?_)
  · refine Exists.imp (fun s (h : _ ∧ _) => ⟨h.1, fun i => (by
      obtain ⟨z, hz, hz2⟩ := h.2.2 i
      exact ⟨z, hz, hz2.congr fun r => by rw [List.nil_append, hm.mem hlx]⟩)⟩) (foldM_inv (fun (pre : List (Int × Report)) (s : FMap Int Int) => (∀ x ∈ pre, x.2 ∈ K) ∧ ∀ i, ∃ z : Option Report, s i = z.map (·.id) ∧ Latest (Co' K i) (pre.map (·.2)) z) lx [] (fnone : FMap Int Int) ⟨(fun x hx => by simp at hx), fun i => ⟨none, rfl, fun r hr => by simp at hr⟩⟩ (fun pre x s hx hI => ?_))
    · obtain ⟨xk, r⟩ := x
      have hr : r ∈ K := mem1 hlx _ hx
      obtain ⟨hpre, hI⟩ := hI
      have hpre' : ∀ x ∈ pre ++ [(xk, r)], x.2 ∈ K := fun x hx => by
        rcases List.mem_append.1 hx with h9 | h9
        · exact hpre x h9
        · have : x = (xk, r) := by simpa using h9
          rw [this]; exact hr
      have no : (∀ i, ¬ Co' K i r) → (∀ x ∈ pre ++ [(xk, r)], x.2 ∈ K) ∧ ∀ i, ∃ z : Option Report, s i = z.map (·.id) ∧ Latest (Co' K i) ((pre ++ [(xk, r)]).map (·.2)) z := fun hn => ⟨hpre', fun i => by
        obtain ⟨z, hz, hz2⟩ := hI i
        rw [List.map_append]
        exact ⟨z, hz, (hz2.push r).1 (hn i)⟩⟩
      show Ret _ fun s' : FMap Int Int => (∀ x ∈ pre ++ [(xk, r)], x.2 ∈ K) ∧ ∀ i, ∃ z : Option Report, s' i = z.map (·.id) ∧ Latest (Co' K i) ((pre ++ [(xk, r)]).map (·.2)) z
      refine Ret.bind (Ret.bind (r_aim hK hm (fun o ha => ?_) fun o' hna => ?_))
      · dsimp only
        have hov := hK.v o ha.1
        have one : ∀ {i o2}, o2 ∈ K → o2.id = i → Co K o2 r → o2 = o := fun h1 _ h3 => hK.one h1 ha.1 (by rw [h3.2.1.2.1, ha.2.1])
        by_cases c1 : r.kind = 8
        · rw [decide_eq_true c1]
          refine Ret.bind (Ret.condF rfl (Ret.condF rfl ?_))
          unfold P.account_fact
          refine Ret.bind (Ret.ok ?_)
          by_cases c2 : o.kind ≤ 7
          · refine Ret.condF (by simp; exact c2) (Ret.bind (Ret.val (p_glob hov.1) ?_))
            rw [p_in (by simp), bindS]
            by_cases c3 : 0 ≤ r.cents ∧ r.cents ≤ most o.kind
            · refine Ret.condF (by simp [inB, c3]) ?_
              unfold P.account_desk_away
              refine Ret.bind (Ret.bind (Ret.ok (Ret.ok ?_)))
              dsimp only
              have gs : ∀ i, (g i).isSome = true ↔ ¬ WdR K i none := fun i => by
                cases hq : g i with
                | none => simp; have := hg i; rw [hq] at this; exact this
                | some y => simp; intro h9; have := (hg i).uniq h9; rw [hq] at this; cases this
              by_cases c4 : (g r.id).isSome = true
              · rw [c4]
                exact Ret.condT rfl (Ret.ok (Ret.condT rfl (Ret.ok (Ret.ok (no fun i hc => by
                  obtain ⟨o2, _, _, _, _, h5⟩ := hc
                  exact (gs r.id).1 c4 h5.2.2.2)))))
              · have c4' : (g r.id).isSome = false := by simpa using c4
                rw [c4']
                refine Ret.condF rfl (Ret.bind (Ret.bind (Ret.ok (Ret.ok ?_))))
                by_cases c5 : (g o.id).isSome = true
                · rw [c5]
                  exact Ret.ok (Ret.condT rfl (Ret.ok (Ret.ok (no fun i hc => by
                    obtain ⟨o2, h1, h2, _, h4, h5⟩ := hc
                    have := one h1 h2 h5
                    subst this
                    exact (gs o2.id).1 c5 (h2 ▸ h4)))))
                · have c5' : (g o.id).isSome = false := by simpa using c5
                  rw [c5']
                  refine Ret.ok (Ret.condF rfl ?_)
                  have w1 : WdR K r.id none := Classical.byContradiction fun h9 => c4 ((gs r.id).2 h9)
                  have w2 : WdR K o.id none := Classical.byContradiction fun h9 => c5 ((gs o.id).2 h9)
                  have hc : Co' K o.id r := ⟨o, ha.1, rfl, c2, w2, c1, ha, c3, w1⟩
                  have oth : ∀ i, i ≠ o.id → ¬ Co' K i r := fun i hi hc => by
                    obtain ⟨o2, h1, h2, _, _, h5⟩ := hc
                    exact hi (by rw [← h2, one h1 h2 h5])
                  obtain ⟨z, hz, hz2⟩ := hI o.id
                  have put : (z = none ∨ ∃ y, z = some y ∧ (y.made < r.made ∨ y.made = r.made ∧ y.id < r.id)) → (∀ x ∈ pre ++ [(xk, r)], x.2 ∈ K) ∧ ∀ i, ∃ z : Option Report, (fput s o.id r.id) i = z.map (·.id) ∧ Latest (Co' K i) ((pre ++ [(xk, r)]).map (·.2)) z := fun h9 => ⟨hpre', fun i => by
                    rw [List.map_append]
                    unfold fput
                    by_cases e : i = o.id
                    · subst e; rw [if_pos rfl]; exact ⟨some r, rfl, (hz2.push r).2.1 hc h9⟩
                    · rw [if_neg e]
                      obtain ⟨z', hz', hz2'⟩ := hI i
                      exact ⟨z', hz', (hz2'.push r).1 (oth i e)⟩⟩
                  have keep : ∀ y, z = some y → ¬ (y.made < r.made ∨ y.made = r.made ∧ y.id < r.id) → (∀ x ∈ pre ++ [(xk, r)], x.2 ∈ K) ∧ ∀ i, ∃ z : Option Report, s i = z.map (·.id) ∧ Latest (Co' K i) ((pre ++ [(xk, r)]).map (·.2)) z := fun y hy h9 => ⟨hpre', fun i => by
                    rw [List.map_append]
                    by_cases e : i = o.id
                    · subst e; exact ⟨z, hz, (hz2.push r).2.2 hc y hy h9⟩
                    · obtain ⟨z', hz', hz2'⟩ := hI i
                      exact ⟨z', hz', (hz2'.push r).1 (oth i e)⟩⟩
                  refine Ret.bind (Ret.ok (Ret.bind (Ret.ok (Ret.bind ?_))))
                  rw [hz]
                  cases z with
                  | none => exact Ret.condT rfl (Ret.ok (Ret.bind (Ret.condT rfl (Ret.ok (Ret.ok (Ret.ok (put (.inl rfl))))))))
                  | some y =>
                    have hyK : y ∈ K := by
                      obtain ⟨q, hq, hq2⟩ := List.mem_map.1 hz2.1
                      rw [← hq2]; exact hpre q hq
                    have hmy : m y.id = some y := (hm _ _).2 ⟨hyK, rfl⟩
                    refine Ret.condF rfl (Ret.bind (Ret.val p_cmp (Ret.bind (Ret.val p_cmp (Ret.bind (r_Or ?_))))))
                    have hyid : ((some y).map (·.id)).getD 0 = y.id := rfl
                    rw [hyid, hmy]
                    simp only [Option.getD_some]
                    have bd : ∀ a b : Int, -1 ≤ cmpI a b ∧ cmpI a b ≤ 1 := fun a b => by unfold cmpI; split <;> (try split) <;> omega
                    have b1 := bd y.made r.made
                    have b2 := bd y.id r.id
                    refine Ret.bind (Ret.chk (by split <;> omega) (Ret.ok ?_))
                    have key : decide ((if cmpI y.made r.made = 0 then cmpI y.id r.id else cmpI y.made r.made) < 0) = decide (y.made < r.made ∨ y.made = r.made ∧ y.id < r.id) := by
                      rw [decide_eq_decide]
                      unfold cmpI
                      by_cases h1 : y.made < r.made
                      · simp [h1]
                      · by_cases h2 : r.made < y.made
                        · simp [h1, h2]; omega
                        · have : y.made = r.made := by omega
                          simp [this]
                          by_cases h3 : y.id < r.id
                          · simp [h3]
                          · simp [h3]; split <;> omega
                    rw [key]
                    by_cases c6 : y.made < r.made ∨ y.made = r.made ∧ y.id < r.id
                    · rw [decide_eq_true c6]
                      exact Ret.bind (Ret.condT rfl (Ret.ok (Ret.ok (Ret.ok (put (.inr ⟨y, rfl, c6⟩))))))
                    · rw [decide_eq_false c6]
                      exact Ret.bind (Ret.condF rfl (Ret.ok (Ret.ok (Ret.ok (keep y rfl c6)))))
            · have hx : ([r.cents].all (inB 0 (most o.kind))) = false := by simp only [List.all_cons, List.all_nil, Bool.and_true, inB]; exact decide_eq_false c3
              rw [hx]
              exact Ret.condT rfl (Ret.ok (Ret.condT rfl (Ret.ok (Ret.ok (no fun i hc => by
                obtain ⟨o2, h1, h2, _, _, h5⟩ := hc
                rw [one h1 h2 h5] at h5
                exact c3 h5.2.2.1)))))
          · refine Ret.condT (by simp; omega) (Ret.ok (Ret.condT rfl (Ret.ok (Ret.ok (no fun i hc => ?_)))))
            obtain ⟨o2, h1, h2, h3, _, h5⟩ := hc
            rw [one h1 h2 h5] at h3
            exact c2 h3
        · rw [decide_eq_false c1]
          exact Ret.bind (Ret.condT rfl (Ret.ok (Ret.condT rfl (Ret.ok (Ret.ok (no fun i hc => by
            obtain ⟨o2, _, _, _, _, h5⟩ := hc
            exact c1 h5.1))))))
      · dsimp only
        have hn : ∀ i, ¬ Co' K i r := fun i hc => by
          obtain ⟨o2, _, _, _, _, h5⟩ := hc
          exact hna o2 h5.2.1
        refine Ret.bind (Ret.cond (fun _ => Ret.ok ?_) fun _ => Ret.condT rfl (Ret.ok ?_)) <;> exact Ret.condT rfl (Ret.ok (Ret.ok (no hn)))
  · obtain ⟨z, hz, hz2⟩ := hs i
    obtain ⟨z', hz', hz2'⟩ := hs' i
    rw [hz, hz', Latest.uniq hK hz2 hz2']
  · exact Ret.ok (h _ ⟨hm, hg, hf⟩)
end S
end Go.Proofs.YtepjkmoipjeghaaDoor
namespace Go.Proofs.YtepjkmoipjeghaaDoor
open Go Go.Sx
namespace S
def lt (a b : Report) : Prop := a.about < b.about ∨ a.about = b.about ∧ a.id < b.id
instance (a b : Report) : Decidable (lt a b) := inferInstanceAs (Decidable (_ ∨ _))
def le (a b : Report) : Prop := a.about < b.about ∨ a.about = b.about ∧ a.id ≤ b.id
theorem two_one {l1 l2 : List Report} (hp : l1.Perm l2) (h1 : l1.Pairwise le) (h2 : l2.Pairwise le) (hn : (l1.map (·.id)).Nodup) : l1 = l2 := by
  refine List.Perm.eq_of_pairwise (fun a b ha hb hab hba => ?_) h1 h2 hp
  have hb' := hp.mem_iff.2 hb
  obtain ⟨i, hi⟩ := List.getElem?_of_mem ha
  obtain ⟨j, hj⟩ := List.getElem?_of_mem hb'
  have e : a.id = b.id := by unfold le at hab hba; omega
  have hi' : (l1.map (·.id))[i]? = some a.id := by simp [hi]
  have hj' : (l1.map (·.id))[j]? = some a.id := by simp [hj, e]
  have : i = j := (List.getElem?_inj (get_lt hi') hn).1 (hi'.trans hj'.symm)
  subst this
  rw [hi] at hj
  exact Option.some.inj hj
/-! Sorting. -/
def cf0 (a b : Report) : Int := if cmpI a.about b.about = 0 then cmpI a.id b.id else cmpI a.about b.about
theorem cf0_neg {a b : Report} : cf0 a b < 0 ↔ lt a b := by
  unfold cf0 cmpI lt
  by_cases h1 : a.about < b.about
  · simp [h1]
  · by_cases h2 : b.about < a.about
    · simp [h1, h2]; omega
    · have : a.about = b.about := by omega
      simp [this]
      by_cases h3 : a.id < b.id
      · simp [h3]
      · simp [h3]; split <;> omega
theorem p_ord {a b : Report} : P.account_ordered_api_Report_in1 a b [75, 76] = some (cf0 a b) := by
  obtain ⟨z, h1, h2⟩ : Ret (P.account_ordered_api_Report_in1 a b [75, 76]) fun z => z = cf0 a b := by
    unfold P.account_ordered_api_Report_in1
    have g1 : ∀ r : Report, P.fn135 75 (Report.mk r.id r.source r.account r.made r.about r.kind r.cents r.of_) = some r.about := fun r => rfl
    have g2 : ∀ r : Report, P.fn135 76 (Report.mk r.id r.source r.account r.made r.about r.kind r.cents r.of_) = some r.id := fun r => rfl
    refine Ret.bind (Ret.loop (fun t : Int => t = 0 ∨ t = 1 ∧ cmpI a.about b.about = 0 ∨ t = 2 ∧ cmpI a.about b.about = 0 ∧ cmpI a.id b.id = 0) (fun t => 2 - t.toNat) (.inl rfl) ?_)
    rintro _ (rfl | ⟨rfl, h0⟩ | ⟨rfl, h0, h1⟩)
    · refine Ret.condT rfl (Ret.bind (Ret.val (show ixo [75, 76] 0 = some 75 from rfl) (Ret.bind (Ret.val (g1 a) (Ret.bind (Ret.val (g1 b) (Ret.bind (Ret.val p_cmp ?_))))))))
      by_cases c : cmpI a.about b.about = 0
      · rw [decide_eq_true c]
        exact Ret.condF rfl (Ret.bind (Ret.chk (by omega) (Ret.next ⟨.inr (.inl ⟨rfl, c⟩), by decide⟩)))
      · rw [decide_eq_false c]
        refine Ret.condT rfl (Ret.done (Ret.elimR (Ret.ok ?_)))
        unfold cf0; rw [if_neg c]
    · refine Ret.condT rfl (Ret.bind (Ret.val (show ixo [75, 76] 1 = some 76 from rfl) (Ret.bind (Ret.val (g2 a) (Ret.bind (Ret.val (g2 b) (Ret.bind (Ret.val p_cmp ?_))))))))
      by_cases c : cmpI a.id b.id = 0
      · rw [decide_eq_true c]
        exact Ret.condF rfl (Ret.bind (Ret.chk (by omega) (Ret.next ⟨.inr (.inr ⟨rfl, h0, c⟩), by decide⟩)))
      · rw [decide_eq_false c]
        refine Ret.condT rfl (Ret.done (Ret.elimR (Ret.ok ?_)))
        unfold cf0; rw [if_pos h0]
    · refine Ret.condF rfl (Ret.done (Ret.elimL (Ret.ok ?_)))
      unfold cf0; rw [if_pos h0, h1]
  rw [h1, h2]
theorem r_ordered {x : List Report} (hn : (x.map (·.id)).Nodup) (hl : x.length ≤ 1000000) {Q : List Report → Prop} (h : ∀ out, out.Perm x → out.Pairwise le → Q out) : Ret (P.account_ordered_74 x [75, 76]) Q := by
  unfold P.account_ordered_74
  have one : ∀ a b, a ∈ x → b ∈ x → a.id = b.id → a = b := fun a b ha hb e => by
    obtain ⟨i, hi⟩ := List.getElem?_of_mem ha
    obtain ⟨j, hj⟩ := List.getElem?_of_mem hb
    have hi' : (x.map (·.id))[i]? = some a.id := by simp [hi]
    have hj' : (x.map (·.id))[j]? = some a.id := by simp [hj, e]
    have : i = j := (List.getElem?_inj (get_lt hi') hn).1 (hi'.trans hj'.symm)
    subst this
    rw [hi] at hj
    exact Option.some.inj hj
  have hok : SortOk x (fun x0_ x1_ => P.account_ordered_api_Report_in1 x0_ x1_ [75, 76]) cf0 := by
    refine ⟨fun a b _ _ => p_ord, ⟨fun a => ?_, fun a b c h1 h2 => ?_, fun a b c h1 h2 => ?_⟩, fun a b ha hb h1 h2 => ?_⟩
    · show decide (cf0 a.1 a.1 < 0) = false
      rw [decide_eq_false_iff_not, cf0_neg]; unfold lt; omega
    · have h1 := of_decide_eq_true h1
      have h2 := of_decide_eq_true h2
      refine decide_eq_true ?_
      rw [cf0_neg] at *
      unfold lt at *; omega
    · have h1 := of_decide_eq_false h1
      have h2 := of_decide_eq_false h2
      refine decide_eq_false ?_
      rw [cf0_neg] at *
      unfold lt at *; omega
    · rw [cf0_neg] at h1 h2
      exact one a b ha hb (by unfold lt at h1 h2; omega)
  have hex : x.length < 4611686018427387904 ∧ ∃ cf, SortOk x (fun x0_ x1_ => P.account_ordered_api_Report_in1 x0_ x1_ [75, 76]) cf := ⟨by omega, cf0, hok⟩
  have hs : P.slices_SortFunc_93 x (fun x0_ x1_ => P.account_ordered_api_Report_in1 x0_ x1_ [75, 76]) = some (x.mergeSort fun a b => !decide (hex.2.choose b a < 0)) := by
    unfold P.slices_SortFunc_93
    rw [dif_pos hex]
  refine Ret.bind (Ret.val hs (Ret.ok (h _ (List.mergeSort_perm _ _) ?_)))
  have hsp := hex.2.choose_spec.1
  have hm := List.map_mergeSort (r := fun a b => !decide (hex.2.choose b a < 0)) (s := fun a b => !decide (cf0 b a < 0)) (f := id) (l := x) fun a ha b hb => by
    have h1 : P.account_ordered_api_Report_in1 b a [75, 76] = some _ := hsp b a hb ha
    rw [p_ord] at h1
    rw [← Option.some.inj h1]; rfl
  simp only [List.map_id] at hm
  rw [hm]
  have hle : ∀ a b : Report, (!decide (cf0 b a < 0)) = true ↔ le a b := fun a b => by
    rw [Bool.not_eq_true', decide_eq_false_iff_not, cf0_neg]
    unfold lt le; omega
  refine (List.pairwise_mergeSort (fun a b c h1 h2 => ?_) (fun a b => ?_) x).imp fun h => (hle _ _).1 h
  · rw [hle] at *; unfold le at *; omega
  · rw [Bool.or_eq_true, hle, hle]; unfold le; omega
/-! What stands. -/
open Classical in
noncomputable def best (K : List Report) (o : Report) : Option Report := if h : ∃ r, Latest (Co K o) K (some r) then some h.choose else none
noncomputable def fix (K : List Report) (o : Report) : Report := match best K o with
  | none => o
  | some c => Report.mk o.id o.source o.account o.made c.about o.kind c.cents o.of_
open Classical in
noncomputable def T (K : List Report) : List Report := (K.filter fun o => decide (o.kind ≤ 7 ∧ WdR K o.id none)).map (fix K)
section
variable {K : List Report} (hK : Ok K)
include hK
theorem best_is {o : Report} {z : Option Report} (h : Latest (Co K o) K z) : best K o = z := by
  unfold best
  split
  · rename_i h1
    exact Latest.uniq hK h1.choose_spec h
  · rename_i h1
    cases z with
    | none => rfl
    | some r => exact absurd ⟨r, h⟩ h1
theorem fix_id (o : Report) : (fix K o).id = o.id := by
  unfold fix; split <;> rfl
theorem T_nd : ((T K).map (·.id)).Nodup := by
  unfold T
  rw [List.map_map]
  have : (fun r : Report => r.id) ∘ fix K = fun r => r.id := funext fun o => fix_id hK o
  rw [this]
  exact (List.Sublist.map _ List.filter_sublist).nodup hK.nd
theorem T_len : (T K).length ≤ 60 := by
  unfold T
  rw [List.length_map]
  exact Nat.le_trans (List.length_filter_le _ _) hK.len
end
end S
end Go.Proofs.YtepjkmoipjeghaaDoor
namespace Go.Proofs.YtepjkmoipjeghaaDoor
open Go Go.Sx
namespace S
/-- A fact with its correction, as the desk has it. -/
def cv (d : Desk) (o : Report) : Report := match d.fixed o.id with
  | none => o
  | some j => Report.mk o.id o.source o.account o.made ((d.store.reports j).getD (Report.mk 0 0 0 0 0 0 0 0)).about o.kind ((d.store.reports j).getD (Report.mk 0 0 0 0 0 0 0 0)).cents o.of_
theorem ite_c {α : Type} {p q : Prop} [Decidable p] [Decidable q] (h : p ↔ q) {a b : α} : (if p then a else b) = if q then a else b := by
  by_cases c : p
  · rw [if_pos c, if_pos (h.1 c)]
  · rw [if_neg c, if_neg fun c' => c (h.2 c')]
theorem nd_of {α β : Type} {f : α → β} {l : List α} (h : (l.map f).Nodup) : l.Nodup := (List.pairwise_map.1 h).imp fun h e => h (congrArg f e)
theorem fold_app : ∀ (l : List (Int × Report)) (pre : List Report), pre.length + l.length ≤ 1000000 → List.foldlM (fun (x158 : (List Report)) (y159 : Int × Report) => Option.bind (appo 64 x158 ([(Report.mk y159.2.id y159.2.source y159.2.account y159.2.made y159.2.about y159.2.kind y159.2.cents y159.2.of_)] : List Report)) fun l190 => some l190) pre l = some (pre ++ l.map (·.2))
  | [], pre, _ => by simp
  | x :: l, pre, h => by
    rw [List.length_cons] at h
    rw [List.foldlM_cons, appo_ok (by simp; omega) (by simp; omega)]
    show List.foldlM _ (pre ++ [x.2]) l = _
    rw [fold_app l (pre ++ [x.2]) (by simp; omega)]
    simp
section
variable {K : List Report} (hK : Ok K) {d : Desk} (hd : Dk K d)
include hK hd
theorem goneN {i : Int} : d.gone i = none ↔ WdR K i none := by
  constructor
  · intro h; have := hd.gone i; rwa [h] at this
  · intro h; exact (hd.gone i).uniq h
theorem co_iff {o : Report} (ho : o ∈ K) (h7 : o.kind ≤ 7) (hw : WdR K o.id none) (r : Report) : Co' K o.id r ↔ Co K o r := by
  constructor
  · rintro ⟨o2, h1, h2, _, _, h5⟩
    rwa [← hK.one h1 ho h2]
  · intro h; exact ⟨o, ho, rfl, h7, hw, h⟩
theorem fixed_is {o : Report} (ho : o ∈ K) (h7 : o.kind ≤ 7) (hw : WdR K o.id none) : ∃ z : Option Report, d.fixed o.id = z.map (·.id) ∧ Latest (Co K o) K z := by
  obtain ⟨z, h1, h2⟩ := hd.fixed o.id
  exact ⟨z, h1, h2.congr fun r => and_congr_right fun _ => co_iff hK hd ho h7 hw r⟩
theorem cv_fix {o : Report} (ho : o ∈ K) (h7 : o.kind ≤ 7) (hw : WdR K o.id none) : cv d o = fix K o := by
  obtain ⟨z, h1, h2⟩ := fixed_is hK hd ho h7 hw
  unfold cv fix
  rw [best_is hK h2, h1]
  cases z with
  | none => rfl
  | some c =>
    have hc : c ∈ K := h2.1
    simp only [Option.map_some, (hd.reports c.id c).2 ⟨hc, rfl⟩, Option.getD_some]
theorem goneL : Lists d.gone ((K.filter fun o => (d.gone o.id).isSome).map fun o => (o.id, (d.gone o.id).getD 0)) := by
  refine ⟨?_, fun a y => ?_⟩
  · rw [List.map_map]
    exact (List.Sublist.map _ List.filter_sublist).nodup hK.nd
  · rw [List.mem_map]
    constructor
    · rintro ⟨o, ho, e⟩
      rw [List.mem_filter] at ho
      obtain ⟨z, hz⟩ := Option.isSome_iff_exists.1 ho.2
      cases e
      rw [hz]; rfl
    · intro h
      have := hd.gone a
      rw [h] at this
      obtain ⟨r, _, ⟨_, _, h3, o, ha, _⟩, _⟩ := this
      have e : o.id = a := by rw [ha.2.1, h3]
      refine ⟨o, List.mem_filter.2 ⟨ha.1, by rw [e, h]; rfl⟩, by rw [e, h]; rfl⟩
open Classical in
theorem r_facts {Q : List Report → Prop} (h : ∀ out, out.Perm (T K) → out.Pairwise le → Q out) : Ret (P.account_facts d) Q := by
  have hl0 := hd.reports.lists hK
  have hKl := hK.len
  unfold P.account_facts
  refine Ret.bind (r_anyM hl0 (fun s : FMap Int Report => ∀ i r', s i = some r' ↔ ∃ o ∈ K, o.id = i ∧ o.kind ≤ 7 ∧ r' = cv d o) (fun lx hlx => ?_) (fun s s' hs hs' => funext fun i => Option.ext fun r' => (hs i r').trans (hs' i r').symm) fun m1 hm1 => ?_)
  · refine Exists.imp (fun s (h : _ ∧ _) => ⟨h.1, fun i r' => (h.2.2 i r').trans (by
      constructor
      · rintro ⟨o, ho, h9⟩; exact ⟨o, by rwa [List.nil_append, hd.reports.mem hlx] at ho, h9⟩
      · rintro ⟨o, ho, h9⟩; exact ⟨o, by rwa [List.nil_append, hd.reports.mem hlx], h9⟩)⟩) (foldM_inv (fun (pre : List (Int × Report)) (s : FMap Int Report) => (∀ x ∈ pre, x.2 ∈ K) ∧ ∀ i r', s i = some r' ↔ ∃ o ∈ pre.map (·.2), o.id = i ∧ o.kind ≤ 7 ∧ r' = cv d o) lx [] (fnone : FMap Int Report) ⟨(fun x hx => by simp at hx), fun i r' => by simp [fnone]⟩ (fun pre x s hx hI => ?_))
    obtain ⟨xk, o⟩ := x
    obtain ⟨ho, hok⟩ := (hd.reports xk o).1 ((hlx.2 _ _).1 hx)
    subst hok
    obtain ⟨hpre, hI⟩ := hI
    have hpre' : ∀ x ∈ pre ++ [(o.id, o)], x.2 ∈ K := fun x hx => by
      rcases List.mem_append.1 hx with h9 | h9
      · exact hpre x h9
      · have : x = (o.id, o) := by simpa using h9
        rw [this]; exact ho
    show Ret _ fun s' : FMap Int Report => (∀ x ∈ pre ++ [(o.id, o)], x.2 ∈ K) ∧ ∀ i r', s' i = some r' ↔ ∃ o' ∈ (pre ++ [(o.id, o)]).map (·.2), o'.id = i ∧ o'.kind ≤ 7 ∧ r' = cv d o'
    have fin : ∀ a c, cv d o = Report.mk o.id o.source o.account o.made a o.kind c o.of_ → Ret (Option.bind (P.account_fact (Report.mk o.id o.source o.account o.made a o.kind c o.of_)) fun z111 => Option.bind (cond z111 (some (fput s o.id (Report.mk o.id o.source o.account o.made a o.kind c o.of_))) (some s)) fun x120 => some x120) fun s' : FMap Int Report => (∀ x ∈ pre ++ [(o.id, o)], x.2 ∈ K) ∧ ∀ i r', s' i = some r' ↔ ∃ o' ∈ (pre ++ [(o.id, o)]).map (·.2), o'.id = i ∧ o'.kind ≤ 7 ∧ r' = cv d o' := fun a c e => by
      rw [← e]
      refine Ret.bind (Ret.val (show P.account_fact (cv d o) = some (decide (o.kind ≤ 7)) by rw [e]; rfl) (Ret.bind (Ret.cond (fun h1 => Ret.ok (Ret.ok ⟨hpre', fun i r' => ?_⟩)) fun h1 => Ret.ok (Ret.ok ⟨hpre', fun i r' => ?_⟩))))
      · have h1 := of_decide_eq_true h1
        rw [List.map_append]
        unfold fput
        by_cases ei : i = o.id
        · subst ei
          rw [if_pos rfl]
          constructor
          · intro h9
            exact ⟨o, List.mem_append.2 (.inr (by simp)), rfl, h1, (Option.some.inj h9).symm⟩
          · rintro ⟨o', h2, h3, h4, h5⟩
            have : o' = o := by
              rcases List.mem_append.1 h2 with h9 | h9
              · obtain ⟨x, hx1, rfl⟩ := List.mem_map.1 h9
                exact hK.one (hpre x hx1) ho h3
              · simpa using h9
            rw [h5, this]
        · rw [if_neg ei, hI]
          constructor
          · rintro ⟨o', h2, h3⟩; exact ⟨o', List.mem_append.2 (.inl h2), h3⟩
          · rintro ⟨o', h2, h3⟩
            rcases List.mem_append.1 h2 with h9 | h9
            · exact ⟨o', h9, h3⟩
            · have : o' = o := by simpa using h9
              exact absurd (by rw [← h3.1, this]) ei
      · have h1 := of_decide_eq_false h1
        rw [List.map_append, hI]
        constructor
        · rintro ⟨o', h2, h3⟩; exact ⟨o', List.mem_append.2 (.inl h2), h3⟩
        · rintro ⟨o', h2, h3⟩
          rcases List.mem_append.1 h2 with h9 | h9
          · exact ⟨o', h9, h3⟩
          · have : o' = o := by simpa using h9
            exact absurd (this ▸ h3.2.1) h1
    dsimp only
    cases hf : d.fixed o.id with
    | none =>
      refine Ret.bind (Ret.mono (Ret.bind (Ret.bind (Ret.ok (Ret.bind (Ret.condF rfl (Ret.ok (Ret.ok (fin _ _ ?_)))))))) fun a ha => Ret.ok ha)
      unfold cv; rw [hf]
    | some j =>
      refine Ret.bind (Ret.mono ?_ fun a ha => Ret.ok ha)
      refine Ret.bind (Ret.bind (Ret.ok (Ret.bind (Ret.condT rfl ?_))))
      refine Ret.bind (Ret.bind (Ret.ok (Ret.bind (Ret.ok (Ret.ok (Ret.ok (Ret.ok (fin _ _ ?_))))))))
      unfold cv; rw [hf]; rfl
  refine Ret.bind (r_anyM (goneL hK hd) (fun s : FMap Int Report => ∀ i, s i = if (d.gone i).isSome then none else m1 i) (fun lx hlx => ?_) (fun s s' hs hs' => funext fun i => (hs i).trans (hs' i).symm) fun m2 hm2 => ?_)
  · classical
    refine Exists.imp (fun s (h : _ ∧ _) => ⟨h.1, fun i => (h.2 i).trans (ite_c ?_)⟩) (foldM_inv (fun (pre : List (Int × Int)) (s : FMap Int Report) => ∀ i, s i = if ∃ y, (i, y) ∈ pre then none else m1 i) lx [] m1 (fun i => by simp) (fun pre x s hx hI => ⟨_, rfl, fun i => ?_⟩))
    · unfold fdel
      by_cases e : i = x.1
      · rw [if_pos e, if_pos ⟨x.2, List.mem_append.2 (.inr (by rw [e]; simp))⟩]
      · rw [if_neg e, hI]
        refine ite_c (exists_congr fun y => ?_)
        rw [List.mem_append]
        constructor
        · exact .inl
        · rintro (h9 | h9)
          · exact h9
          · have : (i, y) = x := by simpa using h9
            exact absurd (by rw [← this]) e
    · rw [List.nil_append, Option.isSome_iff_exists]
      exact exists_congr fun y => hlx.2 i y
  have hlT : Lists m2 ((T K).map fun r => (r.id, r)) := by
    refine ⟨by rw [List.map_map]; exact T_nd hK, fun a y => ?_⟩
    rw [hm2, List.mem_map]
    constructor
    · rintro ⟨r, hr, e⟩
      cases e
      unfold T at hr
      obtain ⟨o, ho, rfl⟩ := List.mem_map.1 hr
      rw [List.mem_filter] at ho
      have h9 := of_decide_eq_true ho.2
      rw [fix_id hK, (goneN hK hd).2 h9.2]
      refine (hm1 _ _).2 ⟨o, ho.1, rfl, h9.1, (cv_fix hK hd ho.1 h9.1 h9.2).symm⟩
    · intro h1
      split at h1
      · cases h1
      rename_i h2
      obtain ⟨o, ho, rfl, h7, rfl⟩ := (hm1 _ _).1 h1
      have hw : WdR K o.id none := (goneN hK hd).1 (by simpa using h2)
      rw [cv_fix hK hd ho h7 hw]
      refine ⟨fix K o, ?_, by rw [fix_id hK]⟩
      unfold T
      exact List.mem_map.2 ⟨o, List.mem_filter.2 ⟨ho, decide_eq_true ⟨h7, hw⟩⟩, rfl⟩
  have hper : ∀ l, Lists m2 l → (l.map (·.2)).Perm (T K) := fun l hl => by
    have : l.Perm ((T K).map fun r => (r.id, r)) := by
      refine (List.perm_ext_iff_of_nodup ?_ ?_).2 fun p => ?_
      · exact nd_of hl.1
      · exact nd_of hlT.1
      · obtain ⟨a, y⟩ := p
        exact (hl.2 a y).trans (hlT.2 a y).symm
    have := this.map (·.2)
    rwa [List.map_map, show ((fun p : Int × Report => p.2) ∘ fun r : Report => (r.id, r)) = id from rfl, List.map_id] at this
  have hone : ∀ l, Lists m2 l → Ret (Option.bind (List.foldlM (fun (x158 : (List Report)) (y159 : Int × Report) => Option.bind (appo 64 x158 ([(Report.mk y159.2.id y159.2.source y159.2.account y159.2.made y159.2.about y159.2.kind y159.2.cents y159.2.of_)] : List Report)) fun l190 => some l190) [] l) fun x195 => Option.bind (P.account_ordered_74 x195 ([75, 76] : List Nat)) fun z202 => some z202) fun out => out.Perm (T K) ∧ out.Pairwise le := fun l hl => by
    have hp := hper l hl
    have hlen := hp.length_eq
    have := T_len hK
    rw [List.length_map] at hlen
    rw [fold_app l [] (by simp; omega), List.nil_append, bindS]
    refine Ret.bind (r_ordered ((hp.map _).nodup_iff.2 (T_nd hK)) (by rw [List.length_map]; omega) fun out h1 h2 => Ret.ok ⟨h1.trans hp, h2⟩)
  obtain ⟨out, h1, h2, h3⟩ := hone _ hlT
  refine ⟨out, anyK_of hlT fun l hl => ?_, h out h2 h3⟩
  obtain ⟨out', h4, h5, h6⟩ := hone l hl
  rw [h4, two_one (h2.trans h5.symm) h3 h6 ((h2.map _).nodup_iff.2 (T_nd hK))]
theorem r_collect (hin : ∀ r ∈ K, InR r) {Q : List Report → Prop} (h : ∀ out, out.Perm (T K) → out.Pairwise le → Q out) : Ret (P.slices_Collect_36 d) Q := by
  classical
  unfold P.slices_Collect_36
  refine Ret.bind (r_facts hK hd fun out h1 h2 => ?_)
  have hlen := h1.length_eq
  have := T_len hK
  rw [if_pos]
  · exact Ret.ok (h out h1 h2)
  refine ⟨by omega, fun r hr => ?_⟩
  have hr := h1.mem_iff.1 hr
  unfold T at hr
  obtain ⟨o, ho, rfl⟩ := List.mem_map.1 hr
  rw [List.mem_filter] at ho
  have h9 := of_decide_eq_true ho.2
  obtain ⟨z, _, hz⟩ := fixed_is hK hd ho.1 h9.1 h9.2
  have hb := best_is hK hz
  unfold fix
  rw [hb]
  have h1 := hin o ho.1
  cases z with
  | none => exact h1
  | some c =>
    have h2 := hin c hz.1
    exact ⟨h1.1, h1.2.1, h1.2.2.1, h1.2.2.2.1, h2.2.2.2.2.1, h1.2.2.2.2.2.1, h2.2.2.2.2.2.2.1, h1.2.2.2.2.2.2.2⟩
end
end S
end Go.Proofs.YtepjkmoipjeghaaDoor
namespace Go.Proofs.YtepjkmoipjeghaaDoor
open Go Go.Sx
namespace S
theorem chk0 {l : List Report} (h : chkE l = 0) : l.length ≤ 60 ∧ (∀ r ∈ l, V r) ∧ Cons l := by
  unfold chkE at h
  split at h
  · exact absurd h (by decide)
  split at h
  · exact absurd h (by decide)
  split at h
  · exact absurd h (by decide)
  rename_i h1 h2 h3
  exact ⟨by omega, fun r hr => Classical.byContradiction fun h9 => h2 ⟨r, hr, h9⟩, Classical.not_not.1 h3⟩
theorem p_ain {known : Int} : P.account_in 0 100000 [known] = some (inB 0 100000 known) := by
  rw [p_in (by simp)]; simp
section
variable {l : List Report} (hin : ∀ r ∈ l, InR r) {known : Int}
include hin
/-- The answers of both. -/
def StA (l : List Report) (known : Int) (z : List Report × Int) : Prop := (chkE l ≠ 0 ∧ z = ([], chkE l)) ∨ (chkE l = 0 ∧ inB 0 100000 known = false ∧ z = ([], 2)) ∨ (chkE l = 0 ∧ inB 0 100000 known = true ∧ ∃ K, Kn l known K ∧ z.1.Perm (T K) ∧ z.1.Pairwise le ∧ z.2 = 0)
omit hin in
theorem ok_of {K : List Report} (h0 : chkE l = 0) (hk : Kn l known K) : Ok K := by
  obtain ⟨h1, h2, h3⟩ := chk0 h0
  exact ⟨fun r hr => h2 r ((hk.mem r).1 hr).1, hk.nd, Nat.le_trans hk.len h1⟩
theorem r_aStanding {Q : List Report × Int → Prop} (h : ∀ z, StA l known z → Q z) : Ret (P.account_Standing l known) Q := by
  unfold P.account_Standing
  refine Ret.bind (r_acheck hin ?_)
  by_cases c : chkE l = 0
  · obtain ⟨h1, h2, h3⟩ := chk0 c
    refine Ret.condF (by simp [c]) ?_
    rw [p_ain, bindS]
    cases ci : inB 0 100000 known with
    | false => exact Ret.condT rfl (Ret.ok (h _ (.inr (.inl ⟨c, ci, rfl⟩))))
    | true =>
      refine Ret.condF rfl ?_
      obtain ⟨K, _, hk⟩ : Ret (P.ref03_Known l known) (Kn l known) := r_Known h1 h3 fun K hk => hk
      refine Ret.bind (r_open h2 h1 h3 hk fun d hd => Ret.bind (Ret.ok (Ret.bind (r_collect (ok_of c hk) hd (fun r hr => hin r ((hk.mem r).1 hr).1) fun out h4 h5 => Ret.ok (h _ (.inr (.inr ⟨c, ci, K, hk, h4, h5, rfl⟩)))))))
  · exact Ret.condT (by simp [c]) (Ret.ok (h _ (.inl ⟨c, rfl⟩)))
omit hin in
theorem Aim.pm {K K' : List Report} (hp : K.Perm K') (r o : Report) : Aim K r o ↔ Aim K' r o := and_congr_left fun _ => hp.mem_iff
omit hin in
theorem Wd.pm {K K' : List Report} (hp : K.Perm K') (i : Int) (r : Report) : Wd K i r ↔ Wd K' i r := by
  unfold Wd
  rw [hp.mem_iff]
  refine and_congr_right fun _ => and_congr_right fun _ => and_congr_right fun _ => exists_congr fun o => and_congr_left fun _ => Aim.pm hp r o
omit hin in
theorem WdR.pm {K K' : List Report} (hp : K.Perm K') {i : Int} {z : Option Int} (h : WdR K i z) : WdR K' i z :=
  Least.congr h fun r => and_congr hp.mem_iff (Wd.pm hp i r)
omit hin in
theorem WdR.pi {K K' : List Report} (hp : K.Perm K') {i : Int} {z : Option Int} : WdR K i z ↔ WdR K' i z := ⟨WdR.pm hp, WdR.pm hp.symm⟩
omit hin in
theorem Co.pm {K K' : List Report} (hp : K.Perm K') (o r : Report) : Co K o r ↔ Co K' o r := by
  unfold Co
  rw [Aim.pm hp, WdR.pi hp]
omit hin in
theorem T_perm {K K' : List Report} (hK : Ok K) (hK' : Ok K') (hp : K.Perm K') : (T K).Perm (T K') := by
  have hf : fix K = fix K' := funext fun o => by
    have hb : best K o = best K' o := by
      unfold best
      classical
      have e : ∀ z, Latest (Co K o) K z ↔ Latest (Co K' o) K' z := fun z => ⟨fun h => h.congr fun r => and_congr hp.mem_iff (Co.pm hp o r), fun h => h.congr fun r => and_congr hp.symm.mem_iff (Co.pm hp.symm o r)⟩
      have h1 : ∀ p q : Report → Prop, p = q → (if h : ∃ r, p r then some h.choose else none) = (if h : ∃ r, q r then some h.choose else none) := by
        rintro p q rfl; rfl
      exact h1 (fun r => Latest (Co K o) K (some r)) (fun r => Latest (Co K' o) K' (some r)) (funext fun r => propext (e (some r)))
    unfold fix
    rw [hb]
  unfold T
  rw [hf]
  refine List.Perm.map _ ?_
  exact (List.Perm.of_eq (List.filter_congr fun o _ => decide_eq_decide.2 (and_congr_right fun _ => WdR.pi hp))).trans (hp.filter _)
end
end S
end Go.Proofs.YtepjkmoipjeghaaDoor
namespace Go.Proofs.YtepjkmoipjeghaaDoor
open Go Go.Sx
namespace S
open Classical in
/-- The withdrawal of a report. -/
noncomputable def wd (K : List Report) (i : Int) : Option Int := if h : ∃ w, WdR K i (some w) then some h.choose else none
theorem wd_is {K : List Report} {i : Int} {z : Option Int} (h : WdR K i z) : wd K i = z := by
  unfold wd
  split
  · rename_i h1
    exact h1.choose_spec.uniq h
  · rename_i h1
    cases z with
    | none => rfl
    | some w => exact absurd ⟨w, h⟩ h1
/-- The report of an Id. -/
def atI (K : List Report) (i : Int) : Option Report := K.find? fun r => decide (r.id = i)
open Classical in
noncomputable def ftOf (K : List Report) (i : Int) : Int × Int × Int :=
  match atI K i with
  | none => (0, 0, 6)
  | some r =>
    if r.kind = 9 then (if ∃ o, Aim K r o ∧ o.kind ≠ 9 then (4, -1, 0) else (3, -1, 0))
    else match wd K i with
    | some w => (2, w, 0)
    | none =>
      if r.kind = 8 then (if ∃ o ∈ K, o.id = r.of_ ∧ o.kind ≤ 7 ∧ wd K o.id = none ∧ best K o = some r then (4, -1, 0) else (3, -1, 0))
      else match best K r with
      | none => (0, -1, 0)
      | some c => (1, c.id, 0)
section
variable {K : List Report} (hK : Ok K)
include hK
theorem atI_some {r : Report} (h : r ∈ K) : atI K r.id = some r := by
  unfold atI
  cases hq : K.find? fun x => decide (x.id = r.id) with
  | none => exact absurd (decide_eq_true rfl) (List.find?_eq_none.1 hq r h)
  | some s =>
    have h1 := List.mem_of_find?_eq_some hq
    have h2 := of_decide_eq_true (p := s.id = r.id) (List.find?_some (p := fun x : Report => decide (x.id = r.id)) hq)
    rw [hK.one h1 h h2]
theorem atI_none {i : Int} (h : ∀ r ∈ K, r.id ≠ i) : atI K i = none := by
  unfold atI
  rw [List.find?_eq_none]
  intro r hr
  simpa using h r hr
theorem wd_nine {r : Report} (hr : r ∈ K) (h9 : r.kind = 9) : WdR K r.id none := fun s hs hw => by
  obtain ⟨_, _, h3, o, ha, ho⟩ := hw
  exact ho (by rw [hK.one ha.1 hr (by rw [ha.2.1, h3])]; exact h9)
theorem r_aFate0 {l : List Report} (hinr : ∀ r ∈ l, InR r) (h0 : chkE l = 0) {known : Int} (hi : inB 0 100000 known = true) (hk : Kn l known K) {n : Int} {Q : Int × Int × Int → Prop} (h : Q (ftOf K n)) : Ret (P.account_Fate l n known) Q := by
  obtain ⟨hl, hin, hC⟩ := chk0 h0
  unfold P.account_Fate
  refine Ret.bind (r_acheck hinr ?_)
  refine Ret.condF (by simp [h0]) ?_
  rw [p_ain, bindS, hi]
  refine Ret.condF rfl (Ret.bind (r_open hin hl hC hk fun d hd => ?_))
  classical
  refine Ret.bind (Ret.ok ?_)
  have hrep := hd.reports
  cases hq : d.store.reports n with
  | none =>
    refine Ret.condT rfl (Ret.ok ?_)
    have : atI K n = none := atI_none hK fun r hr e => by
      rw [(hrep n r).2 ⟨hr, e⟩] at hq; cases hq
    unfold ftOf at h
    rw [this] at h
    exact h
  | some r =>
    obtain ⟨hr, rfl⟩ := (hrep n r).1 hq
    have hat := atI_some hK hr
    unfold ftOf at h
    rw [hat] at h
    dsimp only at h
    refine Ret.condF rfl (Ret.bind (Ret.ok (Ret.bind (Ret.ok ?_))))
    simp only [Option.getD_some]
    have hwd := wd_is (hd.gone r.id)
    have hv := (hK.v r hr).1
    refine Ret.bind (r_aim hK hrep (r := Report.mk r.id r.source r.account r.made r.about r.kind r.cents r.of_) (fun o ha => ?_) fun o' hna => ?_)
    all_goals dsimp only
    · have ha : Aim K r o := ha
      by_cases c9 : r.kind = 9
      · have hg : d.gone r.id = none := (hd.gone r.id).uniq (wd_nine hK hr c9)
        rw [if_pos c9] at h
        rw [decide_eq_true c9, decide_eq_false (show ¬ r.kind = 8 by omega), hg]
        refine Ret.bind (Ret.condT rfl (Ret.condT rfl (Ret.ok (Ret.bind (Ret.bind (Ret.condF rfl (Ret.ok (Ret.ok ?_))))))))
        refine Ret.condF rfl ?_
        by_cases c : o.kind = 9
        · rw [if_neg (fun ⟨o2, h1, h2⟩ => h2 (by rw [hK.one h1.1 ha.1 (by rw [h1.2.1, ha.2.1])]; exact c))] at h
          rw [decide_eq_true c]
          refine Ret.condF rfl (Ret.bind (Ret.val (show P.account_fact _ = some (decide (r.kind ≤ 7)) from rfl) ?_))
          rw [decide_eq_false (show ¬ r.kind ≤ 7 by omega)]
          exact Ret.condT rfl (Ret.ok h)
        · rw [if_pos ⟨o, ha, c⟩] at h
          rw [decide_eq_false c]
          exact Ret.condT rfl (Ret.ok h)
      · rw [if_neg c9, hwd] at h
        rw [decide_eq_false c9]
        refine Ret.bind (Ret.condF rfl (Ret.ok ?_))
        cases hg : d.gone r.id with
        | some w =>
          rw [hg] at h
          refine Ret.bind (Ret.mono (Q := fun _ => True) ?_ fun _ _ => Ret.condT rfl (Ret.ok h))
          by_cases c8 : r.kind = 8
          · rw [decide_eq_true c8]
            refine Ret.bind (Ret.condT rfl (Ret.bind (Ret.ok (Ret.bind (Ret.cond (fun _ => Ret.ok (Ret.ok (Ret.ok trivial))) fun _ => Ret.ok (Ret.ok (Ret.ok trivial)))))))
          · rw [decide_eq_false c8]
            exact Ret.bind (Ret.condF rfl (Ret.ok (Ret.ok trivial)))
        | none =>
          rw [hg] at h
          dsimp only at h
          by_cases c8 : r.kind = 8
          · rw [if_pos c8] at h
            rw [decide_eq_true c8]
            obtain ⟨z, hz, hz2⟩ := hd.fixed r.of_
            have hiff : (∃ o ∈ K, o.id = r.of_ ∧ o.kind ≤ 7 ∧ wd K o.id = none ∧ best K o = some r) ↔ z = some r := by
              constructor
              · rintro ⟨o1, h1, h2, h3, h4, h5⟩
                have hw : WdR K o1.id none := by
                  have := hd.gone o1.id
                  have e := wd_is this
                  rw [h4] at e
                  rwa [← e] at this
                have : Latest (Co K o1) K z := hz2.congr fun s => and_congr_right fun _ => by
                  rw [← h2]; exact co_iff hK hd h1 h3 hw s
                have := best_is hK this
                rw [← this, h5]
              · rintro rfl
                obtain ⟨o1, h1, h2, h3, h4, h5⟩ := hz2.2.1
                have h4' : WdR K o1.id none := by rw [h2]; exact h4
                refine ⟨o1, h1, h2, h3, wd_is h4', ?_⟩
                refine best_is hK (hz2.congr fun s => and_congr_right fun _ => ?_)
                rw [← h2]; exact co_iff hK hd h1 h3 h4' s
            refine Ret.bind (Ret.bind (Ret.condT rfl (Ret.bind (Ret.ok ?_))))
            rw [hz]
            have fin : ∀ b : Bool, (b = true ↔ z = some r) → Ret (cond (none : Option Int).isSome (some ((2 : Int), (none : Option Int).getD 0, (0 : Int))) (cond b (some (4, (-1), 0)) (Option.bind (P.account_fact (Report.mk r.id r.source r.account r.made r.about r.kind r.cents r.of_)) fun z109 => cond (!z109) (some (3, (-1), 0)) (cond ((d.fixed r.id).isSome) (some (1, (d.fixed r.id).getD 0, 0)) (some (0, (-1), 0)))))) Q := fun b hb => by
              refine Ret.condF rfl ?_
              cases b with
              | true =>
                rw [if_pos (hiff.2 (hb.1 rfl))] at h
                exact Ret.condT rfl (Ret.ok h)
              | false =>
                rw [if_neg (fun h9 => by have := hb.2 (hiff.1 h9); cases this)] at h
                refine Ret.condF rfl (Ret.bind (Ret.val (show P.account_fact _ = some (decide (r.kind ≤ 7)) from rfl) ?_))
                rw [decide_eq_false (show ¬ r.kind ≤ 7 by omega)]
                exact Ret.condT rfl (Ret.ok h)
            cases z with
            | none =>
              exact Ret.bind (Ret.condF rfl (Ret.ok (Ret.ok (Ret.ok (fin false (by simp))))))
            | some s =>
              refine Ret.bind (Ret.condT rfl (Ret.ok (Ret.ok (Ret.ok ?_))))
              have hs : s ∈ K := hz2.1
              refine fin (decide (s.id = r.id)) ?_
              rw [decide_eq_true_eq]
              constructor
              · intro e; rw [hK.one hs hr e]
              · intro e; rw [Option.some.inj e]
          · rw [if_neg c8] at h
            rw [decide_eq_false c8]
            refine Ret.bind (Ret.bind (Ret.condF rfl (Ret.ok (Ret.ok (Ret.condF rfl (Ret.condF rfl ?_))))))
            refine Ret.bind (Ret.val (show P.account_fact _ = some (decide (r.kind ≤ 7)) from rfl) ?_)
            have h7 : r.kind ≤ 7 := by omega
            rw [decide_eq_true h7]
            have hw : WdR K r.id none := by have := hd.gone r.id; rwa [hg] at this
            obtain ⟨z, hz, hz2⟩ := fixed_is hK hd hr h7 hw
            rw [best_is hK hz2] at h
            refine Ret.condF rfl ?_
            rw [hz]
            cases z with
            | none => exact Ret.condF rfl (Ret.ok h)
            | some c => exact Ret.condT rfl (Ret.ok h)
    · have hna : ∀ o, ¬ Aim K r o := hna
      by_cases c9 : r.kind = 9
      · have hg : d.gone r.id = none := (hd.gone r.id).uniq (wd_nine hK hr c9)
        rw [if_pos c9, if_neg (fun ⟨o2, h1, _⟩ => hna o2 h1)] at h
        rw [decide_eq_true c9, decide_eq_false (show ¬ r.kind = 8 by omega), hg]
        refine Ret.bind (Ret.condT rfl (Ret.condF rfl (Ret.ok (Ret.bind (Ret.bind (Ret.condF rfl (Ret.ok (Ret.ok ?_))))))))
        refine Ret.condF rfl (Ret.condF rfl (Ret.bind (Ret.val (show P.account_fact _ = some (decide (r.kind ≤ 7)) from rfl) ?_)))
        rw [decide_eq_false (show ¬ r.kind ≤ 7 by omega)]
        exact Ret.condT rfl (Ret.ok h)
      · rw [if_neg c9, hwd] at h
        rw [decide_eq_false c9]
        refine Ret.bind (Ret.condF rfl (Ret.ok ?_))
        cases hg : d.gone r.id with
        | some w =>
          rw [hg] at h
          refine Ret.bind (Ret.mono (Q := fun _ => True) ?_ fun _ _ => Ret.condT rfl (Ret.ok h))
          by_cases c8 : r.kind = 8
          · rw [decide_eq_true c8]
            refine Ret.bind (Ret.condT rfl (Ret.bind (Ret.ok (Ret.bind (Ret.cond (fun _ => Ret.ok (Ret.ok (Ret.ok trivial))) fun _ => Ret.ok (Ret.ok (Ret.ok trivial)))))))
          · rw [decide_eq_false c8]
            exact Ret.bind (Ret.condF rfl (Ret.ok (Ret.ok trivial)))
        | none =>
          rw [hg] at h
          dsimp only at h
          by_cases c8 : r.kind = 8
          · rw [if_pos c8] at h
            rw [decide_eq_true c8]
            obtain ⟨z, hz, hz2⟩ := hd.fixed r.of_
            have hno : ∀ s, z ≠ some s ∨ s ≠ r := fun s => by
              by_cases e : z = some s ∧ s = r
              · obtain ⟨rfl, rfl⟩ := e
                obtain ⟨o1, h1, h2, h3, h4, h5⟩ := hz2.2.1
                exact absurd h5.2.1 (hna o1)
              · by_cases e1 : z = some s
                · exact .inr fun e2 => e ⟨e1, e2⟩
                · exact .inl e1
            rw [if_neg (fun ⟨o1, h1, h2, h3, h4, h5⟩ => by
              have hb : best K o1 = some r := h5
              have hw : WdR K o1.id none := by
                have := hd.gone o1.id
                have e := wd_is this
                rw [h4] at e
                rwa [← e] at this
              obtain ⟨z1, _, hz1⟩ := fixed_is hK hd h1 h3 hw
              rw [best_is hK hz1] at hb
              subst hb
              exact hna o1 hz1.2.1.2.1)] at h
            refine Ret.bind (Ret.bind (Ret.condT rfl (Ret.bind (Ret.ok ?_))))
            rw [hz]
            have fin : Ret (cond (none : Option Int).isSome (some ((2 : Int), (none : Option Int).getD 0, (0 : Int))) (cond false (some (4, (-1), 0)) (Option.bind (P.account_fact (Report.mk r.id r.source r.account r.made r.about r.kind r.cents r.of_)) fun z109 => cond (!z109) (some (3, (-1), 0)) (cond ((d.fixed r.id).isSome) (some (1, (d.fixed r.id).getD 0, 0)) (some (0, (-1), 0)))))) Q := by
              refine Ret.condF rfl (Ret.condF rfl (Ret.bind (Ret.val (show P.account_fact _ = some (decide (r.kind ≤ 7)) from rfl) ?_)))
              rw [decide_eq_false (show ¬ r.kind ≤ 7 by omega)]
              exact Ret.condT rfl (Ret.ok h)
            cases z with
            | none => exact Ret.bind (Ret.condF rfl (Ret.ok (Ret.ok (Ret.ok fin))))
            | some s =>
              refine Ret.bind (Ret.condT rfl (Ret.ok (Ret.ok (Ret.ok ?_))))
              have hne : ¬ s.id = r.id := fun e => by
                rcases hno s with h9 | h9
                · exact h9 rfl
                · exact h9 (hK.one hz2.1 hr e)
              rw [decide_eq_false (show ¬ ((some s).map (·.id)).getD 0 = r.id from hne)]
              exact fin
          · rw [if_neg c8] at h
            rw [decide_eq_false c8]
            refine Ret.bind (Ret.bind (Ret.condF rfl (Ret.ok (Ret.ok (Ret.condF rfl (Ret.condF rfl ?_))))))
            refine Ret.bind (Ret.val (show P.account_fact _ = some (decide (r.kind ≤ 7)) from rfl) ?_)
            have h7 : r.kind ≤ 7 := by omega
            rw [decide_eq_true h7]
            have hw : WdR K r.id none := by have := hd.gone r.id; rwa [hg] at this
            obtain ⟨z, hz, hz2⟩ := fixed_is hK hd hr h7 hw
            rw [best_is hK hz2] at h
            refine Ret.condF rfl ?_
            rw [hz]
            cases z with
            | none => exact Ret.condF rfl (Ret.ok h)
            | some c => exact Ret.condT rfl (Ret.ok h)
end
section
variable {l : List Report} (hin : ∀ r ∈ l, InR r) {known : Int}
include hin
/-- What both say of a report. -/
def FtA (l : List Report) (n known : Int) (z : Int × Int × Int) : Prop := (chkE l ≠ 0 ∧ z = (0, 0, chkE l)) ∨ (chkE l = 0 ∧ inB 0 100000 known = false ∧ z = (0, 0, 2)) ∨ (chkE l = 0 ∧ inB 0 100000 known = true ∧ ∃ K, P.ref03_Known l known = some K ∧ Kn l known K ∧ z = ftOf K n)
omit hin in
theorem known_is (h0 : chkE l = 0) : ∃ K, P.ref03_Known l known = some K ∧ Kn l known K := by
  obtain ⟨h1, h2, h3⟩ := chk0 h0
  exact r_Known h1 h3 fun K hk => hk
theorem r_aFate {n : Int} {Q : Int × Int × Int → Prop} (h : ∀ z, FtA l n known z → Q z) : Ret (P.account_Fate l n known) Q := by
  by_cases c : chkE l = 0
  · cases ci : inB 0 100000 known with
    | false =>
      unfold P.account_Fate
      refine Ret.bind (r_acheck hin ?_)
      refine Ret.condF (by simp [c]) ?_
      rw [p_ain, bindS, ci]
      exact Ret.condT rfl (Ret.ok (h _ (.inr (.inl ⟨c, ci, rfl⟩))))
    | true =>
      obtain ⟨K, hk, hk2⟩ := known_is (known := known) c
      exact r_aFate0 (ok_of c hk2) hin c ci hk2 (h _ (.inr (.inr ⟨c, ci, K, hk, hk2, rfl⟩)))
  · unfold P.account_Fate
    exact Ret.bind (r_acheck hin (Ret.condT (by simp [c]) (Ret.ok (h _ (.inl ⟨c, rfl⟩)))))
end
end S
end Go.Proofs.YtepjkmoipjeghaaDoor
set_option maxRecDepth 20000
set_option maxHeartbeats 4000000
namespace Go.Proofs.YtepjkmoipjeghaaDoor
open Go Go.Sx Go.RowKit
@[ext] structure Book where
  facts : (List Report)
attribute [grind ext] Book.ext
instance : DecidableEq Book := fun x y => decidable_of_iff (x.facts = y.facts) ⟨fun h => Book.ext h, fun h => by subst h; rfl⟩
@[ext] structure Payer where
  day : Int
  source : Int
attribute [grind ext] Payer.ext
instance : DecidableEq Payer := fun x y => decidable_of_iff (x.day = y.day ∧ x.source = y.source) ⟨fun ⟨h0, h1⟩ => Payer.ext h0 h1, fun h => by subst h; exact ⟨rfl, rfl⟩⟩
theorem cells141 : Tryd.prog.cellsOf 141 = 2 := by kernel_rfl
theorem kty141 : Tryd.prog.keyType 141 = true := by kernel_rfl
theorem cells3 : Tryd.prog.cellsOf 3 = 1 := by kernel_rfl
def Ky141 : Ky Tryd.prog 141 Payer := deepKy (show laidOutB Tryd.prog = true by kernel_rfl) (m := 2) (by omega) (of_decide_eq_true (by kernel_rfl)) (by kernel_rfl) (by rw [Tryd.underlying141]) (fun x => .agg (List.toArray [vi x.day, vi x.source])) (fun x => InK .i64 x.day ∧ InK .i64 x.source)
  (fun {x} h => by
    exact key2 Tryd.underlying141 rfl rfl rfl rfl (by decide) (by decide) Tryd.underlying3 cells141 cells3 kty141 (of_decide_eq_true (by kernel_rfl)) h.1 h.2)
  (fun {a b} _ _ h => by
    cases a; cases b; simp at h; simp [h])
def tab53 : List (List Value) := [[vu 1, Value.func (.func 79) #[] #[], Value.func (.func 80) #[] #[]], [vu 2, Value.func (.func 81) #[] #[], Value.func (.func 82) #[] #[]], [vu 3, Value.func (.func 83) #[] #[], Value.func (.func 82) #[] #[]], [vu 5, Value.func (.func 84) #[] #[], Value.func (.func 82) #[] #[]], [vu 6, Value.func (.func 85) #[] #[], Value.func (.func 80) #[] #[]], [vu 7, Value.func (.func 86) #[] #[], Value.func (.func 80) #[] #[]]]
theorem slr107 : SlT Tryd.prog 107 112 3 24 := ⟨Tryd.underlying107, Tryd.t112, _, by kernel_rfl, rfl, rfl, rfl, rfl⟩
theorem C_account_fields {M : List Nat} {w : World} (hM : MLt M w) : Calls Tryd.prog 53 (List.toArray []) w fun e w' => ∃ v, e = .returned v ∧ RdS (rawE 3 (by decide)) M w' v tab53 ∧ Ext w w' := by
 have hI := Hp.start (Mu := []) hM
 refine calls_cw Tryd.func53 rfl Tryd.ntmps53 rfl ?_
 refine cw_seq (cw_regF (s_as rfl rfl (Reg.nil (cw_seq (cw_regF ?_)))))
 iterate 6 refine s_bd [(0, 1), (1, 1), (2, 1)] Tryd.zeroValue112 rfl Tryd.underlying112 (fun _ => by simp [Tryd.sizeOf109, Tryd.sizeOf110, Tryd.sizeOf5]) rfl (Cls.cons rfl (Cls.cons rfl (Cls.cons rfl (Cls.nil)))) rfl rfl ?_
 refine y_bs (E := rawE 3 (by decide)) (xs := tab53) slr107 hI rfl rfl (Cls.cons rfl (Cls.cons rfl (Cls.cons rfl (Cls.cons rfl (Cls.cons rfl (Cls.cons rfl (Cls.nil))))))) (Chs.cons ⟨rfl, rfl, one1 rfl (one1 rfl (one1 rfl (one0)))⟩ (Chs.cons ⟨rfl, rfl, one1 rfl (one1 rfl (one1 rfl (one0)))⟩ (Chs.cons ⟨rfl, rfl, one1 rfl (one1 rfl (one1 rfl (one0)))⟩ (Chs.cons ⟨rfl, rfl, one1 rfl (one1 rfl (one1 rfl (one0)))⟩ (Chs.cons ⟨rfl, rfl, one1 rfl (one1 rfl (one1 rfl (one0)))⟩ (Chs.cons ⟨rfl, rfl, one1 rfl (one1 rfl (one1 rfl (one0)))⟩ (Chs.nil))))))) rfl rfl ?_
 intro v w2 hI2 x2
 refine s_as rfl rfl (Reg.nil (cw_ret (fin1 Tryd.results53 rfl ?_)))
 have hf := hI2.freeze 0 rfl
 exact ⟨_, rfl, hf.adv (Hp.baseA (σ := [])), hI2.kp⟩
theorem C_pf79 {M : List Nat} {w : World} {b o : Nat} (_ : MLt M w) : Calls Tryd.prog 79 (List.toArray [.pointer (some ⟨b, o, none⟩)]) w fun e w' => e = .returned (.pointer (some ⟨b, o + 0, none⟩)) ∧ Ext w w' := by
 refine calls_cw Tryd.func79 rfl Tryd.ntmps79 rfl ?_
 refine cw_seq (cw_regF (s_as rfl rfl (Reg.nil (cw_seq (cw_regF (s_mv rfl rfl (s_nc rfl rfl (s_fa rfl Tryd.underlying42 rfl Tryd.sizeOf38 rfl (s_as rfl rfl (Reg.nil (cw_ret ?_)))))))))))
 refine fin1 Tryd.results79 rfl ?_
 exact ⟨rfl, Kp.refl _ _⟩
theorem C_pf81 {M : List Nat} {w : World} {b o : Nat} (_ : MLt M w) : Calls Tryd.prog 81 (List.toArray [.pointer (some ⟨b, o, none⟩)]) w fun e w' => e = .returned (.pointer (some ⟨b, o + 4, none⟩)) ∧ Ext w w' := by
 refine calls_cw Tryd.func81 rfl Tryd.ntmps81 rfl ?_
 refine cw_seq (cw_regF (s_as rfl rfl (Reg.nil (cw_seq (cw_regF (s_mv rfl rfl (s_nc rfl rfl (s_fa rfl Tryd.underlying42 rfl Tryd.sizeOf38 rfl (s_as rfl rfl (Reg.nil (cw_ret ?_)))))))))))
 refine fin1 Tryd.results81 rfl ?_
 exact ⟨rfl, Kp.refl _ _⟩
theorem C_pf83 {M : List Nat} {w : World} {b o : Nat} (_ : MLt M w) : Calls Tryd.prog 83 (List.toArray [.pointer (some ⟨b, o, none⟩)]) w fun e w' => e = .returned (.pointer (some ⟨b, o + 8, none⟩)) ∧ Ext w w' := by
 refine calls_cw Tryd.func83 rfl Tryd.ntmps83 rfl ?_
 refine cw_seq (cw_regF (s_as rfl rfl (Reg.nil (cw_seq (cw_regF (s_mv rfl rfl (s_nc rfl rfl (s_fa rfl Tryd.underlying42 rfl Tryd.sizeOf38 rfl (s_as rfl rfl (Reg.nil (cw_ret ?_)))))))))))
 refine fin1 Tryd.results83 rfl ?_
 exact ⟨rfl, Kp.refl _ _⟩
theorem C_pf84 {M : List Nat} {w : World} {b o : Nat} (_ : MLt M w) : Calls Tryd.prog 84 (List.toArray [.pointer (some ⟨b, o, none⟩)]) w fun e w' => e = .returned (.pointer (some ⟨b, o + 12, none⟩)) ∧ Ext w w' := by
 refine calls_cw Tryd.func84 rfl Tryd.ntmps84 rfl ?_
 refine cw_seq (cw_regF (s_as rfl rfl (Reg.nil (cw_seq (cw_regF (s_mv rfl rfl (s_nc rfl rfl (s_fa rfl Tryd.underlying42 rfl Tryd.sizeOf38 rfl (s_as rfl rfl (Reg.nil (cw_ret ?_)))))))))))
 refine fin1 Tryd.results84 rfl ?_
 exact ⟨rfl, Kp.refl _ _⟩
theorem C_pf85 {M : List Nat} {w : World} {b o : Nat} (_ : MLt M w) : Calls Tryd.prog 85 (List.toArray [.pointer (some ⟨b, o, none⟩)]) w fun e w' => e = .returned (.pointer (some ⟨b, o + 16, none⟩)) ∧ Ext w w' := by
 refine calls_cw Tryd.func85 rfl Tryd.ntmps85 rfl ?_
 refine cw_seq (cw_regF (s_as rfl rfl (Reg.nil (cw_seq (cw_regF (s_mv rfl rfl (s_nc rfl rfl (s_fa rfl Tryd.underlying42 rfl Tryd.sizeOf38 rfl (s_as rfl rfl (Reg.nil (cw_ret ?_)))))))))))
 refine fin1 Tryd.results85 rfl ?_
 exact ⟨rfl, Kp.refl _ _⟩
theorem C_pf86 {M : List Nat} {w : World} {b o : Nat} (_ : MLt M w) : Calls Tryd.prog 86 (List.toArray [.pointer (some ⟨b, o, none⟩)]) w fun e w' => e = .returned (.pointer (some ⟨b, o + 20, none⟩)) ∧ Ext w w' := by
 refine calls_cw Tryd.func86 rfl Tryd.ntmps86 rfl ?_
 refine cw_seq (cw_regF (s_as rfl rfl (Reg.nil (cw_seq (cw_regF (s_mv rfl rfl (s_nc rfl rfl (s_fa rfl Tryd.underlying42 rfl Tryd.sizeOf38 rfl (s_as rfl rfl (Reg.nil (cw_ret ?_)))))))))))
 refine fin1 Tryd.results86 rfl ?_
 exact ⟨rfl, Kp.refl _ _⟩
end Go.Proofs.YtepjkmoipjeghaaDoor
