/-
  Part 9 of the texts that the statement's proof stands on: what memory holds, how code is walked, what the functions reckon. In the order in which they build.
-/
import Derived.RangeFuncLeaves
import Derived.RangeFuncNested
import Derived.TacticsIn
import Derived.Test.YtecmlmngcnionaaGreatProg
import Derived.RangeFuncBox
import Derived.Shelf.Abstract
import Derived.WalkKit
import Derived.OwnWalkIn
import Derived.TacticsInMore
import Derived.LoopNIn
import Derived.LoopIn
import Derived.Scope
import Derived.Test.YtecmlmngcnionaaGreatSr8
set_option linter.unusedVariables false
namespace Go.Sx
open Go Go.RowKit
/-- A function's end, where a range over a function may have left its mark. -/
def FinM (P : Program) (fn : Func) (R : Ending → World → Prop) (ds : List Deferred) (L : Env) (w : World) : Prop :=
  (ds = [] ∧ ∃ v, (∀ a, Knows fn.ntmps ds L a → (results fn a.tmps).run P w = .ok v w) ∧ R (.returned v) w) ∨
  ∃ D w', ds = [{ target := .collected D, args := #[] }] ∧ (Instr.takeDeferred D).run P w = .ok [] w' ∧ ∃ v, (∀ a, Knows fn.ntmps ds L a → (results fn a.tmps).run P w' = .ok v w') ∧ R (.returned v) w'
theorem FinM.of {P : Program} {fn : Func} {R : Ending → World → Prop} {ds : List Deferred} {L : Env} {w : World} (h : FinR P fn R ds L w) : FinM P fn R ds L w := .inl h
theorem calls_cwM {P : Program} {f : FuncId} {fn : Func} {c : Code} {l : List Value} {w : World} {R : Ending → World → Prop} {N : Nat}
    (hf : P.funcs[f]? = some fn) (hb : fn.body = some c) (hN : fn.ntmps = N) (hl : Nat.ble l.length N = true)
    (h : CW P N c [] (argEnv 0 l) w (FinM P fn R) (FinM P fn R) NoX NoZ) : Calls P f l.toArray w R := by
  subst hN
  refine (callsIn_wide (n := 3)).1 (callsIn_of_wp_marks hf hb trivial (wpIn_wide.2 (wp_mono (h _ ⟨?_, rfl, ?_⟩) ?_)) rfl)
  · have : l.length ≤ fn.ntmps := Nat.le_of_ble_eq_true hl
    simp; omega
  · intro t v ht
    obtain ⟨j, rfl, hj⟩ := look_argEnv l 0 t v ht
    have hlt : j < l.length := by
      rcases Nat.lt_or_ge j l.length with h | h
      · exact h
      · simp [List.getElem?_eq_none h] at hj
    simp only [Nat.zero_add]
    rw [Array.getElem?_append_left (by simpa using hlt)]
    simpa using hj
  · intro e a w' hq
    have fin : ∀ ds L, Knows fn.ntmps ds L a → FinM P fn R ds L w' → LeavesInM Fence.wide 3 P fn a.tmps R a.defers .returning w' := fun ds L ha hF => by
      rcases hF with ⟨rfl, v, hv, hR⟩ | ⟨D, w2, rfl, ht, v, hv, hR⟩
      · rw [ha.defers]; exact ⟨v, hv a ha, hR⟩
      · rw [ha.defers]; exact ⟨by simp, .inl ⟨D, w2, rfl, ht, ⟨v, hv a ha, hR⟩⟩⟩
    cases e with
    | normal => obtain ⟨ds, L, ha, hF⟩ := hq; exact fin ds L ha hF
    | ret => obtain ⟨ds, L, ha, hF⟩ := hq; exact fin ds L ha hF
    | panic ch => obtain ⟨ds, L, ha, hF⟩ := hq; exact hF.elim
    | exit i => obtain ⟨ds, L, ha, hx⟩ := hq; exact hx.elim
    | goto l => exact hq.elim
    | outgrown => exact hq.elim
/-- A map that is read: from numbers. -/
def RdM {α : Type} (E : Enc α) (ag : Bool) (k : IntKind) (M : List Nat) (w : World) (b : Nat) (xs : List (Int × α)) : Prop :=
  b ∉ M ∧ b < w.heap.size ∧ ∃ es c, w.heap[b]? = some (.map es c) ∧ EntR E ag k M w es.toList xs
theorem RdM.adv {α : Type} {E : Enc α} {ag : Bool} {k : IntKind} {M M' : List Nat} {w w' : World} {b : Nat} {xs : List (Int × α)} (h : RdM E ag k M w b xs) (ha : Adv M M' w w') : RdM E ag k M' w' b xs := by
  obtain ⟨h1, h2, es, c, h3, h4⟩ := h
  exact ⟨fun hb => (ha.new b hb).elim h1 (fun h => absurd h2 (by omega)), Nat.lt_of_lt_of_le h2 ha.kp.size, es, c, (ha.kp.block b h2 h1).trans h3, h4.adv ha⟩
theorem Hp.mapRd {α : Type} {E : Enc α} {ag : Bool} {k : IntKind} {b : Nat} {xs : List (Int × α)} {w w0 : World} {Mu M : List Nat} {σ : List Res} (h : Hp w0 Mu M σ w) (i : Nat) (hi : σ[i]? = some (mapR E ag k b xs)) : RdM E ag k (mm (σ.eraseIdx i) M) w b xs := by
  obtain ⟨es, c, h1, h2⟩ := h.mapAt i hi
  have hb : b ∈ (mapR E ag k b xs).fp := by simp [mapR]
  exact ⟨h.apart i hi b hb, heap_lt h1, es, c, h1, h2.mon fun x hx => .inl (mm_sub (List.eraseIdx_sublist σ i) hx)⟩
/-- Asked for in a map that is read. -/
theorem s_mlk {P : Program} {N : Nat} {ops : Array Oper} {rest : List Oper} {ds : List Deferred} {L : Env} {w : World} {A B : Out} {X : Nat → Out} {Z : List PanicEntry → Out} {d : Nat} {ty : TypeId} {pos : String} {af : Array Edge} {M : List Nat} {α : Type} {E : Enc α} {ag : Bool} {k k' : IntKind} {b : Nat} {xs : List (Int × α)} {z0 : α} {zv : Value} {x y : Operand} {t kt e : TypeId} {key : Int}
    (hm : RdM E ag k M w b xs) (hx : ev L x = some (.map (some b))) (hy : ev L y = some (.int k key)) (ht : P.underlying t = some (.map kt e)) (hk : P.underlying kt = some (.int k')) (hz : ∀ w, (zeroValue e).run P w = .ok zv w) (hzR : Vl E ag M w zv z0) (hN : Nat.blt d N = true)
    (h : ∀ v, Vl E ag M w v ((mget xs key).getD z0) → Reg P N ops .seq rest ds ((d, .tuple #[v, .bool (mget xs key).isSome]) :: L) w A B X Z) :
    Reg P N ops .seq (⟨some d, .lookup t x y true, ty, pos, af, none⟩ :: rest) ds L w A B X Z := by
  obtain ⟨_, _, es, c, h1, h2⟩ := hm
  have hck : ∀ em w, (Instr.checkKey em 10000 kt (.int k key)).run P w = .ok () w := fun em w => check_int (n := 9999) hk
  rcases EntR.find (k' := k') (key := key) 0 h2 with ⟨g1, g2, _⟩ | ⟨j, e', y', g1, g2, g3, _⟩
  · have h' := h zv (by rw [g2]; exact hzR)
    rw [g2] at h'
    refine Reg.eff _ w rfl rfl hN (fun a ha => ?_) h'
    simp [execOp, ha.eval hx, ha.eval hy, Instr.lookup, run_underlying ht, MapKept.run_getObj_map h1, hck, Instr.findKey, run_underlying hk, g1, hz]
  · have h' := h e'.val (by rw [g2]; exact g3)
    rw [g2] at h'
    refine Reg.eff _ w rfl rfl hN (fun a ha => ?_) h'
    simp [execOp, ha.eval hx, ha.eval hy, Instr.lookup, run_underlying ht, MapKept.run_getObj_map h1, hck, Instr.findKey, run_underlying hk, g1]
end Go.Sx
namespace Go.Sx
open Go Go.RowKit
/-- Nothing is fenced; code runs in a round of loop l. -/
def FW (l : Nat) : Fence := Fence.wide.inRound l
theorem callsIn_FW {l n : Nat} {P : Program} {f : FuncId} {args : Array Value} {w : World} {R : Ending → World → Prop} (h : Calls P f args w R) : CallsIn (FW l) n P f args w R :=
  show CallsIn Fence.wide n P f args w R from callsIn_wide.2 h
theorem uponIn_of {l n : Nat} {P : Program} {o : Oper} {a : Act} {next next' : Act → World → Prop} {Q : Exit → Act → World → Prop} (hn : ∀ a w, next a w → next' a w) {r : Result Next} (h : o.upon P a next Q r) : o.uponIn (FW l) n P a next' Q r := by
  unfold Oper.upon at h
  split at h
  · exact hn _ _ h
  · exact hn _ _ h
  · exact hn _ _ h
  · refine ⟨fun e => (by cases e), callsIn_FW (h.mono fun e w2 h2 => ?_)⟩
    cases e with
    | returned v => exact hn _ _ h2
    | panicked c => exact h2
    | outgrown => exact h2
  · refine ⟨fun e => (by cases e), fun c cs _ => ?_⟩
    obtain ⟨v, w2, h2, h3⟩ := h c cs
    exact ⟨v, w2, hn _ _ h2, (show StepsIn (Machine.fenced P Fence.wide) P _ _ from stepsIn_wide.2 h3)⟩
  · exact h
  · exact h.elim
def noDefer : Op → Bool
  | .defer _ => false
  | _ => true
theorem wpListIn_of {l n : Nat} {P : Program} {ops : Array Oper} {Q : Exit → Act → World → Prop} (hQ : ¬ LetsOut Q) : ∀ {os : List Oper} {a : Act} {w : World}, os.all (fun o => noDefer o.op) = true → wpList P ops Q os a w → wpListIn (FW l) n P ops Q os a w
  | [], _, _, _, h => h
  | o :: os, a, w, hd, h => by
    simp only [List.all_cons, Bool.and_eq_true] at hd
    have ih : ∀ a w, wpList P ops Q os a w → wpListIn (FW l) n P ops Q os a w := fun a w => wpListIn_of hQ hd.2
    unfold wpList at h
    unfold wpListIn
    split at h
    · rename_i hw
      rw [if_pos hw]
      rcases h with h | h
      · refine ⟨fun _ _ => trivial, ?_⟩
        have hs : Oper.semAt (FW l).round a.eval o = execOp a.eval o := Oper.semAt_eq _ _ _ fun c hc => by rw [hc] at hd; simp [noDefer] at hd
        rw [hs]
        exact uponIn_of ih h
      · exact absurd h.2 hQ
    · rename_i hw
      rw [if_neg hw]
      exact ⟨fun _ _ => trivial, ih _ _ h⟩
/-- What code does in a round. -/
def CI (l n : Nat) (P : Program) (N : Nat) (c : Code) (ds : List Deferred) (L : Env) (w : World) (A B : Out) (X : Nat → Out) (Z : List PanicEntry → Out) : Prop := ∀ a, Knows N ds L a → c.wpIn (FW l) n P (lift N A B X Z) a w
section
variable {l n : Nat} {P : Program} {N : Nat} {ds : List Deferred} {L : Env} {w : World} {A B : Out} {X : Nat → Out} {Z : List PanicEntry → Out}
theorem noOut : ¬ LetsOut (lift N A B X Z) := fun ⟨_, _, h⟩ => h
theorem ci_reg {id : Nat} {os : List Oper} (hd : os.all (fun o => noDefer o.op) = true) (h : Reg P N os.toArray .seq os ds L w A B X Z) : CI l n P N (.region id os.toArray false) ds L w A B X Z :=
  fun a ha => wpIn_region_lit (wpListIn_of noOut hd (h a ha))
theorem ci_seq {x y : Code} (h : CI l n P N x ds L w (fun ds' L' w' => CI l n P N y ds' L' w' A B X Z) B X Z) : CI l n P N (.seq x y) ds L w A B X Z := fun a ha =>
  wpIn_seq (wpIn_mono (h a ha) fun e a' w' hq => by
    cases e with
    | normal => obtain ⟨ds', L', ha', hk⟩ := hq; exact hk a' ha'
    | _ => exact hq)
theorem ci_skip (h : A ds L w) : CI l n P N .skip ds L w A B X Z := fun a ha => wpIn_skip ⟨ds, L, ha, h⟩
theorem ci_ret (h : B ds L w) : CI l n P N .ret ds L w A B X Z := fun a ha => wpIn_ret ⟨ds, L, ha, h⟩
theorem ci_cond {c : Operand} {x y : Code} {b : Bool} (hc : ev L c = some (.bool b)) (ht : b = true → CI l n P N x ds L w A B X Z) (hf : b = false → CI l n P N y ds L w A B X Z) : CI l n P N (.cond c x y) ds L w A B X Z := fun a ha => by
  cases b with
  | true => exact wpIn_cond_true (ha.eval hc) (ht rfl a ha)
  | false => exact wpIn_cond_false (ha.eval hc) (hf rfl a ha)
end
section
variable {l n : Nat} {P : Program} {N : Nat} {ds : List Deferred} {L : Env} {w : World} {A B : Out} {X : Nat → Out} {Z : List PanicEntry → Out}
theorem ci_sub {c : Code} {L' : Env} (hs : Sub L L') (h : CI l n P N c ds L w A B X Z) : CI l n P N c ds L' w A B X Z := fun a ha => h a (ha.sub hs)
theorem ci_block {id : Nat} {c : Code} (h : CI l n P N c ds L w A B (exB id A X) Z) : CI l n P N (.block id c) ds L w A B X Z := fun a ha =>
  wpIn_block (wpIn_mono (h a ha) fun e a' w' hq => by
    cases e with
    | exit i =>
      obtain ⟨ds', L', ha', hx⟩ := hq
      simp only [Exit.inBlock]
      by_cases hi : i = id
      · subst hi
        rw [if_pos rfl]
        exact ⟨ds', L', ha', by simpa [exB] using hx⟩
      · rw [if_neg hi]
        refine ⟨ds', L', ha', ?_⟩
        have hb : Nat.beq i id = false := by
          cases hb : Nat.beq i id with
          | false => rfl
          | true => exact absurd (Nat.eq_of_beq_eq_true hb) hi
        simpa [exB, hb] using hx
    | _ => exact hq)
end
/-- A range over a function that yields numbers. -/
theorem cw_range {P : Program} {N : Nat} {ds : List Deferred} {L : Env} {w : World} {A B : Out} {X : Nat → Out} {Z : List PanicEntry → Out} {g : Operand} {p : Nat} {assign body : Code} {gf : Nat} {lb : Array Value} {α : Type} {val : α → Int} {xs : List α} {K : World → World → Prop}
    (hg : ev L g = some (.func (.func gf) #[] lb)) (eg : ∀ args w, (callFunc gf args).run P w = .ok (.enter gf args) w) (hp : Nat.blt p N = true)
    (hseq : SeqStopsK Fence.wide 2 P gf lb (fun x : α => #[Value.int .i64 (val x)]) K (fun ys => ys = xs) (fun pre => pre <+: xs) xs.length w)
    (hKt : ∀ {A B C : World}, K A B → K B C → K A C) (hKb : ∀ (W : World) (l : Nat) (o o' : Obj), w.heap.size ≤ l → W.heap[l]? = some o → o.isCells = false → o.isWalk = false → K W (W.putObj l o'))
    (I Ix : List α → World → Prop) (hI : OwnFrom w.heap.size I) (hIx : OwnFrom w.heap.size Ix) (h0 : I [] w)
    (AL : α → Env → World → Prop) (hAL : ∀ x L', OwnFrom w.heap.size fun (_ : Unit) W => AL x L' W)
    (hassign : ∀ (l : Nat) (pre : List α) (x : α) (W : World), I pre W → CI l 1 P N assign [] ((p, .int .i64 (val x)) :: L) W (fun ds' L' W' => ds' = [] ∧ KeepsFrom w.heap.size W W' ∧ K W W' ∧ I pre W' ∧ AL x L' W') (fun _ _ _ => False) NoX (fun _ _ _ _ => False))
    (hbody : ∀ (l : Nat) (pre : List α) (x : α) (L' : Env) (W : World), I pre W → AL x L' W → pre.length < xs.length →
      CI l 1 P N body [] L' W (fun _ _ W' => KeepsFrom w.heap.size W W' ∧ K W W' ∧ I (pre ++ [x]) W') (fun _ _ W' => KeepsFrom w.heap.size W W' ∧ Ix (pre ++ [x]) W') NoX (fun _ _ _ _ => False))
    (hdone : ∀ (D : Nat) (W : World), w.heap.size ≤ D → I xs W → W.heap[D]? = some (.deferred (some [])) → A ({ target := .collected D, args := #[] } :: ds) L W)
    (hstop : ∀ (D : Nat) (pre : List α) (W : World), w.heap.size ≤ D → pre <+: xs → Ix pre W → W.heap[D]? = some (.deferred (some [])) → B ({ target := .collected D, args := #[] } :: ds) L W) :
    CW P N (.rangeFunc g #[p] assign body) ds L w A B X Z := by
  intro a ha
  refine (wpIn_wide (n := 3)).1 ?_
  have hN : p < N := by simpa [Nat.blt_eq] using hp
  refine wpIn_rangeFunc_ownH (F := Fence.wide) (n := 3) rfl (by omega) (ha.eval hg) trivial eg hseq (fun h k => hKt h k) hKb (Below.refl _ _) (fun x => rfl) I (fun c pre W => c = .ret ∧ Ix pre W) hI
    (fun c s W W' row hs hgr hr => ⟨hs.1, hIx s W W' row hs.2 hgr hr⟩) h0 (fun x a' W => ∃ L', Knows N [] L' a' ∧ AL x L' W) (fun x a' s W W' row hs hgr hr => ?_) ?_ ?_ ?_ ?_
  · obtain ⟨L', h1, h2⟩ := hs
    exact ⟨L', h1, hAL x L' () W W' row h2 hgr hr⟩
  · intro l pre x W K' hi hK
    have hk : Knows N [] ((p, .int .i64 (val x)) :: L) { tmps := a.tmps.setIfInBounds p (.int .i64 (val x)), defers := [] } := by
      have := (show Knows N [] L { a with defers := [] } from ⟨ha.size, rfl, ha.val⟩).put hp (.int .i64 (val x))
      exact this
    have hz : (Array.foldl (fun (t : Array Value) (x : Tmp × Value) => match x with | (p, v) => t.setIfInBounds p v) a.tmps (#[p].zip #[Value.int .i64 (val x)])) = a.tmps.setIfInBounds p (.int .i64 (val x)) := by simp
    rw [hz]
    refine wpIn_mono (hassign l pre x W hi _ hk) fun e a' W' hq => ?_
    cases e with
    | normal => obtain ⟨ds', L', h1, rfl, h3, h4, h5, h6⟩ := hq; exact hK a' W' h3 h4 h5 ⟨L', h1, h6⟩
    | ret => obtain ⟨_, _, _, h⟩ := hq; exact h.elim
    | exit i => obtain ⟨_, _, _, h⟩ := hq; exact h.elim
    | panic c => obtain ⟨_, _, _, h⟩ := hq; exact h.elim
    | goto l => exact hq.elim
    | outgrown => exact hq.elim
  · intro l pre x a' W _ _ hi hA hl
    obtain ⟨L', h1, h2⟩ := hA
    refine wpIn_mono (hbody l pre x L' W hi h2 hl a' h1) fun e a' W' hq => ?_
    cases e with
    | normal => obtain ⟨ds', L', h1, h3⟩ := hq; exact h3
    | ret => obtain ⟨ds', L', h1, h3, h4⟩ := hq; exact ⟨h3, rfl, h4⟩
    | exit i => obtain ⟨_, _, _, h⟩ := hq; exact h.elim
    | panic c => obtain ⟨_, _, _, h⟩ := hq; exact h.elim
    | goto l => exact hq.elim
    | outgrown => exact hq.elim
  · intro D ys W hD hy hi hw
    subst hy
    exact ⟨_, L, ⟨ha.size, by rw [ha.defers], ha.val⟩, hdone D W hD hi hw⟩
  · intro D c pre W hD hy hi hw
    obtain ⟨rfl, hi⟩ := hi
    exact wpIn_ret ⟨_, L, ⟨ha.size, by rw [ha.defers], ha.val⟩, hstop D pre W hD hy hi hw⟩
end Go.Sx
namespace Go.Sx
open Go Go.RowKit
/-- One after another, until the answer is yes. -/
def runL {S : Type} (f : S → Int → Bool × S) : S → List Int → Bool × S
  | s, [] => (false, s)
  | s, v :: r => bif (f s v).1 then (true, (f s v).2) else runL f (f s v).2 r
theorem runL_app {S : Type} {f : S → Int → Bool × S} : ∀ {a b : List Int} {s : S}, runL f s (a ++ b) = bif (runL f s a).1 then runL f s a else runL f (runL f s a).2 b
  | [], b, s => rfl
  | v :: a, b, s => by
    simp only [List.cons_append, runL]
    cases h : (f s v).1 with
    | true => rfl
    | false => simp only [cond_false]; exact runL_app
theorem runL_no {S : Type} {f : S → Int → Bool × S} {a : List Int} {s s1 : S} {v : Int} (h : runL f s a = (false, s1)) : runL f s (a ++ [v]) = f s1 v := by
  rw [runL_app, h]
  simp only [cond_false, runL]
  cases h2 : (f s1 v).1 with
  | true => simp only [cond_true]; rw [← h2]
  | false => simp only [cond_false]; rw [← h2]
theorem runL_yes {S : Type} {f : S → Int → Bool × S} {a b : List Int} {s s1 : S} (h : runL f s a = (true, s1)) (hp : a <+: b) : runL f s b = (true, s1) := by
  obtain ⟨r, rfl⟩ := hp
  rw [runL_app, h]; rfl
/-- All choices of values for some traits, in order, from trait t on, until the answer is yes: k traits are left. -/
def onS {S : Type} (so : S → List Int → Bool × S) (lists : Nat → Option (List Int)) : Nat → Nat → List Int → S → Bool × S
  | 0, _, x, s => so s x
  | k + 1, t, x, s => match lists t with
    | none => onS so lists k (t + 1) x s
    | some l => runL (fun s v => onS so lists k (t + 1) (x.set t v) s) s l
theorem runL_G {S : Type} {G : S → Prop} {f : S → Int → Bool × S} : ∀ {l : List Int} {s : S}, (∀ v ∈ l, ∀ s, G s → (f s v).1 = false → G (f s v).2) → G s → (runL f s l).1 = false → G (runL f s l).2
  | [], s, _, hg, _ => hg
  | v :: l, s, h, hg, hr => by
    unfold runL at hr ⊢
    cases hb : (f s v).1 with
    | true => rw [hb] at hr; cases hr
    | false =>
      rw [hb] at hr
      simp only [cond_false] at hr ⊢
      exact runL_G (fun v hv => h v (List.mem_cons_of_mem _ hv)) (h v (List.mem_cons_self ..) s hg hb) hr
theorem onS_G {S : Type} {G : S → Prop} {D : List Int → Prop} {so : S → List Int → Bool × S} {lists : Nat → Option (List Int)} (hG : ∀ s x, G s → D x → (so s x).1 = false → G (so s x).2) (hset : ∀ t l v x, lists t = some l → v ∈ l → D x → D (x.set t v)) :
    ∀ (k t : Nat) (x : List Int) (s : S), D x → G s → (onS so lists k t x s).1 = false → G (onS so lists k t x s).2
  | 0, t, x, s, hd, hg, h => hG s x hg hd h
  | k + 1, t, x, s, hd, hg, h => by
    unfold onS at h ⊢
    cases hl : lists t with
    | none => rw [hl] at h; exact onS_G hG hset k (t + 1) x s hd hg h
    | some l =>
      rw [hl] at h
      exact runL_G (fun v hv s hg => onS_G hG hset k (t + 1) (x.set t v) s (hset t l v x hl hv hd) hg) hg h
theorem Chunks.int {k : IntKind} {M M' : List Nat} {w w' : World} : ∀ {cs : List Value} {xs : List Int}, Chunks (intE k) M w cs xs → Chunks (intE k) M' w' cs xs
  | _, [], h => h
  | _, _ :: _, ⟨c, rest, h, hR, hr⟩ => ⟨c, rest, h, hR, Chunks.int hr⟩
theorem Own.int {k : IntKind} {e Bb : Nat} {M M' : List Nat} {w w' : World} {v : Value} {xs : List Int} (h : Own (intE k) e Bb M w v xs) (hb : ∀ b ∈ ob v, w'.heap[b]? = w.heap[b]?) : Own (intE k) e Bb M' w' v xs := by
  rcases h with h | ⟨g, cap, cur, rfl, h1, h2, h3, h4, h5, h6⟩
  · exact .inl h
  · exact .inr ⟨g, cap, cur, rfl, h1, by rw [hb g (by simp [ob])]; exact h2, h3, h4, h5, Chunks.int h6⟩
theorem Own.isCells {α : Type} {E : Enc α} {e Bb : Nat} {M : List Nat} {w : World} {v : Value} {xs : List α} (h : Own E e Bb M w v xs) : ∀ b ∈ ob v, ∃ cs t p, w.heap[b]? = some (Obj.cells cs t p) := by
  intro b hb
  rcases h with ⟨a, rfl, rfl⟩ | ⟨g, cap, cur, rfl, h1, h2, _⟩
  · cases a <;> cases hb
  · have : b = g := by simpa [ob] using hb
    subst this; exact ⟨_, _, _, h2⟩
/-- What a function value keeps in memory of its own: numbers s, in cells of the blocks fp. -/
structure Held {S : Type} (H : S → List Nat → World → Prop) : Prop where
  cells : ∀ {s fp w}, H s fp w → ∀ b ∈ fp, ∃ cs t p, w.heap[b]? = some (Obj.cells cs t p)
  kp : ∀ {s fp w w'}, H s fp w → (∀ b ∈ fp, w'.heap[b]? = w.heap[b]?) → H s fp w'
theorem Held.lt {S : Type} {H : S → List Nat → World → Prop} (h : Held H) {s : S} {fp : List Nat} {w : World} (hs : H s fp w) : ∀ b ∈ fp, b < w.heap.size := fun b hb => by
  obtain ⟨cs, t, p, h1⟩ := h.cells hs b hb
  exact heap_lt h1
/-- A function value with a state of its own: what it does with a list, from state to state; since world w1, the blocks of A alone were changed. -/
structure ClH (P : Program) (f : Value) {S : Type} (D : List Int → Prop) (G : S → Prop) (so : S → List Int → Bool × S) (H : S → List Nat → World → Prop) (A : List Nat) (w1 : World) : Prop where
  run : ∀ {w : World} {fp : List Nat} {s : S} {x : List Int} {v : Value}, Kp A w1 w → (∀ c ∈ fp, c ∈ A ∨ w1.heap.size ≤ c) → H s fp w → G s → RdS (intE .i64) fp w v x → D x →
    CallsV P f [v] w fun e w' => e = .returned (.bool (so s x).1) ∧ Kp fp w w' ∧ ∃ fp', H (so s x).2 fp' w' ∧ ∀ c ∈ fp', c ∈ fp ∨ w.heap.size ≤ c
/-- What is so in the midst of 'on', called in world w with the blocks fp: the list in vx is x, the state s lies in fp1; the blocks bt, br hold the trait and the answer. -/
structure Mid {S : Type} (H : S → List Nat → World → Prop) (vx : Value) (w : World) (fp : List Nat) (bt br : Nat) (t : Int) (x : List Int) (s : S) (fp1 : List Nat) (r : Bool) (w2 : World) : Prop where
  kp : Kp (ob vx ++ fp) w w2
  hs : H s fp1 w2
  fpn : ∀ c ∈ fp1, c ∈ fp ∨ w.heap.size ≤ c
  own : Own (intE .i64) 3 0 [] w2 vx x
  sep : ∀ c ∈ ob vx, c ∉ fp1
  rt : Row 3 w2 bt [.int .i64 t]
  rr : Row 4 w2 br [.bool r]
  nt : w.heap.size ≤ bt
  nr : w.heap.size ≤ br
  ne : bt ≠ br
  tx : bt ∉ ob vx ++ fp1
  rx : br ∉ ob vx ++ fp1
section
variable {S : Type} {H : S → List Nat → World → Prop} {vx : Value} {w : World} {fp : List Nat} {bt br : Nat} {t : Int} {x : List Int} {s : S} {fp1 : List Nat} {r : Bool} {w2 w3 : World}
theorem Mid.ext (hH : Held H) (h : Mid H vx w fp bt br t x s fp1 r w2) (e : Ext w2 w3) : Mid H vx w fp bt br t x s fp1 r w3 :=
  ⟨h.kp.trans e.kp, hH.kp h.hs fun b hb => e.block b (hH.lt h.hs b hb) (by simp), h.fpn, h.own.int fun b hb => e.block b (by obtain ⟨_, _, _, h1⟩ := h.own.isCells b hb; exact heap_lt h1) (by simp), h.sep, h.rt.kp e (by simp), h.rr.kp e (by simp), h.nt, h.nr, h.ne, h.tx, h.rx⟩
theorem Mid.stR {b : Bool} (hH : Held H) (h : Mid H vx w fp bt br t x s fp1 r w2) (k : Kp [br] w2 w3) (hr : Row 4 w3 br [.bool b]) : Mid H vx w fp bt br t x s fp1 b w3 := by
  have hne : ∀ c ∈ ob vx ++ fp1, c ∉ [br] := fun c hc hc' => by
    have : c = br := by simpa using hc'
    subst this; exact h.rx hc
  refine ⟨h.kp.tail k fun c hc => .inr ?_, hH.kp h.hs fun b hb => k.block b (hH.lt h.hs b hb) (hne b (List.mem_append_right _ hb)), h.fpn, h.own.int fun b hb => k.block b (by obtain ⟨_, _, _, h1⟩ := h.own.isCells b hb; exact heap_lt h1) (hne b (List.mem_append_left _ hb)), h.sep, h.rt.kp k ?_, hr, h.nt, h.nr, h.ne, h.tx, h.rx⟩
  · have : c = br := by simpa using hc
    subst this; exact h.nr
  · have := h.ne
    simpa using this
theorem Mid.stX {x' : List Int} (hH : Held H) (h : Mid H vx w fp bt br t x s fp1 r w2) (k : Kp (ob vx) w2 w3) (ho : Own (intE .i64) 3 0 [] w3 vx x') : Mid H vx w fp bt br t x' s fp1 r w3 :=
  ⟨h.kp.trans (k.mono fun c hc => .inl (List.mem_append_left _ hc)), hH.kp h.hs fun b hb => k.block b (hH.lt h.hs b hb) (fun hb' => h.sep b hb' hb), h.fpn, ho, h.sep, h.rt.kp k (fun hb => h.tx (List.mem_append_left _ hb)), h.rr.kp k (fun hb => h.rx (List.mem_append_left _ hb)), h.nt, h.nr, h.ne, h.tx, h.rx⟩
theorem Mid.call {x' : List Int} {s' : S} {fp2 : List Nat} (hH : Held H) (h : Mid H vx w fp bt br t x s fp1 r w2) (k : Kp (ob vx ++ fp1) w2 w3) (hs : H s' fp2 w3) (hn : ∀ c ∈ fp2, c ∈ fp1 ∨ w2.heap.size ≤ c) (ho : Own (intE .i64) 3 0 [] w3 vx x') : Mid H vx w fp bt br t x' s' fp2 r w3 := by
  have hox : ∀ b ∈ ob vx, b < w2.heap.size := fun b hb => by obtain ⟨_, _, _, h1⟩ := h.own.isCells b hb; exact heap_lt h1
  have hold : ∀ b, b < w2.heap.size → b ∉ ob vx ++ fp1 → b ∉ ob vx ++ fp2 := fun b hb hnot hb' => by
    rcases List.mem_append.1 hb' with h1 | h1
    · exact hnot (List.mem_append_left _ h1)
    · rcases hn b h1 with h2 | h2
      · exact hnot (List.mem_append_right _ h2)
      · omega
  refine ⟨h.kp.tail k fun c hc => ?_, hs, fun c hc => ?_, ho, fun c hc hc' => ?_, h.rt.kp k h.tx, h.rr.kp k h.rx, h.nt, h.nr, h.ne, hold _ h.rt.rd.lt h.tx, hold _ h.rr.rd.lt h.rx⟩
  · rcases List.mem_append.1 hc with h1 | h1
    · exact .inl (List.mem_append_left _ h1)
    · rcases h.fpn c h1 with h2 | h2
      · exact .inl (List.mem_append_right _ h2)
      · exact .inr h2
  · rcases hn c hc with h1 | h1
    · exact h.fpn c h1
    · exact .inr (Nat.le_trans h.kp.size h1)
  · rcases hn c hc' with h1 | h1
    · exact h.sep c hc h1
    · have := hox c hc; omega
/-- A block turned that holds no cells and is new. -/
theorem Mid.turn {row : Option Nat} (hH : Held H) (h : Mid H vx w fp bt br t x s fp1 r w2) (hg : w2.grownBy w3 row) (hr : ∀ j, row = some j → w.heap.size ≤ j ∧ ∃ o : Obj, w2.heap[j]? = some o ∧ o.isCells = false) : Mid H vx w fp bt br t x s fp1 r w3 := by
  have hc : ∀ b, (∃ cs t p, w2.heap[b]? = some (Obj.cells cs t p)) → w3.heap[b]? = w2.heap[b]? := fun b hb => by
    obtain ⟨cs, t, p, h1⟩ := hb
    refine hg.block b (heap_lt h1) fun e => ?_
    obtain ⟨o, h2, h3⟩ := (hr b e.symm).2
    rw [h1] at h2; cases h2; cases h3
  have hk : Kp (row.toList) w2 w3 := Kp.of_grownBy hg fun k e => by rw [e]; simp
  have hrow : ∀ c ∈ row.toList, w.heap.size ≤ c := fun c hc' => by
    cases row with
    | none => cases hc'
    | some j =>
      have : c = j := by simpa using hc'
      subst this; exact (hr c rfl).1
  exact ⟨h.kp.tail hk fun c hc' => .inr (hrow c hc'), hH.kp h.hs fun b hb => hc b (hH.cells h.hs b hb), h.fpn, h.own.int fun b hb => hc b (h.own.isCells b hb), h.sep, (hc bt ⟨_, _, _, h.rt⟩).trans h.rt, (hc br ⟨_, _, _, h.rr⟩).trans h.rr, h.nt, h.nr, h.ne, h.tx, h.rx⟩
theorem Mid.noncells (hH : Held H) (h : Mid H vx w fp bt br t x s fp1 r w2) {k : Nat} {o : Obj} (hk : w2.heap[k]? = some o) (ho : o.isCells = false) : k ∉ ob vx ++ fp1 := fun hm => by
  have : ∃ cs t p, w2.heap[k]? = some (Obj.cells cs t p) := (List.mem_append.1 hm).elim (h.own.isCells k) (hH.cells h.hs k)
  obtain ⟨cs, t, p, h1⟩ := this
  rw [hk] at h1; cases h1; cases ho
end
theorem ClH.adv {P : Program} {f : Value} {S : Type} {D : List Int → Prop} {G : S → Prop} {so : S → List Int → Bool × S} {H : S → List Nat → World → Prop} {M M' : List Nat} {w w' : World} (h : ClH P f D G so H M w) (ha : Adv M M' w w') : ClH P f D G so H M' w' := ⟨fun k hc hs hg hx hd =>
  h.run (ha.kp.tail k ha.new) (fun c hc' => (hc c hc').elim (ha.new c) fun h1 => .inr (Nat.le_trans ha.kp.size h1)) hs hg hx hd⟩
/-- What a call of 'on' leaves. -/
def OnPost {S : Type} (H : S → List Nat → World → Prop) (vx : Value) (fp : List Nat) (x : List Int) (b : Bool) (s' : S) (w : World) (e : Ending) (w' : World) : Prop :=
  e = .returned (.bool b) ∧ Kp (ob vx ++ fp) w w' ∧ ∃ (fp' : List Nat) (x' : List Int), H s' fp' w' ∧ (∀ c ∈ fp', c ∈ fp ∨ w.heap.size ≤ c) ∧ Own (intE .i64) 3 0 [] w' vx x' ∧ (b = false → x' = x)
theorem Mid.adv {S : Type} {H : S → List Nat → World → Prop} {vx : Value} {w : World} {fp : List Nat} {bt br : Nat} {t : Int} {x : List Int} {s : S} {fp1 : List Nat} {r : Bool} {w2 : World} (h : Mid H vx w fp bt br t x s fp1 r w2) : Adv (ob vx ++ fp) (ob vx ++ fp1) w w2 :=
  ⟨h.kp, fun b hb => (List.mem_append.1 hb).elim (fun h1 => .inl (List.mem_append_left _ h1)) fun h1 => (h.fpn b h1).elim (fun h2 => .inl (List.mem_append_right _ h2)) .inr⟩
theorem Mid.mlt {S : Type} {H : S → List Nat → World → Prop} (hH : Held H) {vx : Value} {w : World} {fp : List Nat} {bt br : Nat} {t : Int} {x : List Int} {s : S} {fp1 : List Nat} {r : Bool} {w2 : World} (h : Mid H vx w fp bt br t x s fp1 r w2) : MLt (ob vx ++ fp1) w2 := fun b hb => (List.mem_append.1 hb).elim (fun h1 => by obtain ⟨_, _, _, h2⟩ := h.own.isCells b h1; exact heap_lt h2) (hH.lt h.hs b)
theorem Mid.post {S : Type} {H : S → List Nat → World → Prop} {vx : Value} {w : World} {fp : List Nat} {bt br : Nat} {t : Int} {x x' : List Int} {s' : S} {fp1 : List Nat} {b : Bool} {w2 : World} (h : Mid H vx w fp bt br t x' s' fp1 b w2) (hx : b = false → x' = x) : OnPost H vx fp x b s' w (.returned (.bool b)) w2 :=
  ⟨rfl, h.kp, fp1, x', h.hs, h.fpn, h.own, hx⟩
end Go.Sx
namespace Go.Proofs.YtecmlmngcnionaaGreat
open Go Go.RowKit Go.Shelf
attribute [local go_sem] Oper.semAt_some
set_option maxRecDepth 100000 in
set_option maxHeartbeats 2000000 in
theorem values1_in (F : Fence) (n : Nat) (h7 : F.fn 64) (hro : F.round = none) (hn : 1 ≤ n) (l Bs b off len cap : Nat) {α : Type} (val : α → Int) (zs : List α) (hlen : zs.length = len) (hreach : len * 8 ≤ 140737488351232) (K : World → World → Prop) (hKr : ∀ W, K W W) (hKt : ∀ {A B C : World}, K A B → K B C → K A C) (hKc : ∀ {W W' : World} {j : Nat} {v : Value}, K W W' → W.cell? ⟨b, j, none⟩ = some v → W'.cell? ⟨b, j, none⟩ = some v) (J Jx : List α → World → Prop)
    (hY : ∀ pre x W, J pre W → pre.length < len → YieldAt F (n - 1) Tryz.prog l #[.int .i64 (val x)] W fun e W' =>
      (e = .returned (.bool true) ∧ J (pre ++ [x]) W' ∧ K W W') ∨ (e = .returned (.bool false) ∧ Jx (pre ++ [x]) W'))
    (W : World) (hBs : W.cell? ⟨Bs, 0, none⟩ = some (.slice (some ⟨b, off, none⟩) len cap)) (hc : ∀ (j : Nat) (x : α), zs[j]? = some x → W.cell? ⟨b, off + j, none⟩ = some (.int .i64 (val x))) (h0 : J [] W) :
    CallsIn F n Tryz.prog 64 #[.func (.yield l) #[] #[], .pointer (some ⟨Bs, 0, none⟩)] W fun e W' => (∃ v, e = .returned v) ∧
      ((∃ ys, ys = zs ∧ J ys W') ∨ (∃ pre, (∃ k, pre = zs.take k) ∧ Jx pre W')) := by
  refine callsIn_of_wp Tryz.func64 rfl h7 ?_ hro
  simp only [Tryz.ntmps64, List.size_toArray, List.length_cons, List.length_nil, Nat.reduceAdd, Nat.reduceSub, Array.replicate_succ, Array.replicate_zero, List.push_toArray, List.append_toArray, List.nil_append, List.cons_append]
  gi_wp2
  gi_loopw [7] (fun i wr => ∃ k : Nat, k ≤ len ∧ i = .int .i64 k ∧ J (zs.take k) wr ∧ K W wr)
    (fun i _ => len - (intOf i).toNat)
  case atStart => exact ⟨0, Nat.zero_le _, rfl, h0, hKr _⟩
  case round =>
    obtain ⟨k, hk, rfl, hJs, hnx⟩ := hrel
    by_cases hlt : k < len
    · have hz : zs[k]? = some zs[k] := List.getElem?_eq_getElem (by omega)
      obtain ⟨fn, tmps, assign, body, hy, hR⟩ := hY _ zs[k] wr hJs (by rw [List.length_take]; omega)
      have hcx' := hKc hnx (hc k _ hz)
      have htk : zs.take (k + 1) = zs.take k ++ [zs[k]] := by rw [List.take_add_one, hz]; rfl
      gi_wp2
      refine hR.mono ?_
      rintro e W3 (⟨rfl, hJ3, hk3⟩ | ⟨rfl, hJx3⟩)
      · gi_wp2
        go_roundw
        case rel => exact ⟨k + 1, by omega, by simp, by rw [htk]; exact hJ3, hKt hnx hk3⟩
        case measure => simp [intOf]; omega
      · gi_wp2
        refine bodyPost_ret (results_none rfl _ _ _) rfl ?_
        exact ⟨⟨_, rfl⟩, .inr ⟨_, ⟨k + 1, htk.symm⟩, hJx3⟩⟩
    · obtain rfl : k = len := by omega
      gi_wp2
      go_end0
      exact ⟨⟨_, rfl⟩, .inl ⟨_, rfl, by rwa [List.take_of_length_le (by omega)] at hJs⟩⟩
set_option maxRecDepth 100000 in
set_option maxHeartbeats 1000000 in
theorem values1_none_in (F : Fence) (n : Nat) (h7 : F.fn 64) (hro : F.round = none) (l Bs cap : Nat) (a : Option Addr) {α : Type} (J : List α → World → Prop) (W : World) (hBs : W.cell? ⟨Bs, 0, none⟩ = some (.slice a 0 cap)) (h0 : J [] W) :
    CallsIn F n Tryz.prog 64 #[.func (.yield l) #[] #[], .pointer (some ⟨Bs, 0, none⟩)] W fun e W' => (∃ v, e = .returned v) ∧ J [] W' := by
  refine callsIn_of_wp Tryz.func64 rfl h7 ?_ hro
  simp only [Tryz.ntmps64, List.size_toArray, List.length_cons, List.length_nil, Nat.reduceAdd, Nat.reduceSub, Array.replicate_succ, Array.replicate_zero, List.push_toArray, List.append_toArray, List.nil_append, List.cons_append]
  gi_wp2
  gi_loopw [7] (fun i wr => i = .int .i64 0 ∧ J [] wr) (fun _ _ => 0)
  case atStart => exact ⟨rfl, h0⟩
  case round =>
    obtain ⟨rfl, hJs⟩ := hrel
    gi_wp2
    go_end0
    exact ⟨⟨_, rfl⟩, hJs⟩
/-- What slices.Values hands back yields the elements, to every body of a loop that keeps the slice's block. -/
theorem values_stops (F : Fence) (n : Nat) (h7 : F.fn 64) (hro : F.round = none) (hn : 1 ≤ n) {M : List Nat} {w : World} {v : Value} {xs : List Int} (h : Sx.ItS (Sx.intE .i64) 64 M w v xs) {α : Type} (val : α → Int) (zs : List α) (hzs : zs.map val = xs) (hreach : xs.length * 8 ≤ 140737488351232) (K : World → World → Prop) (hKr : ∀ W, K W W) (hKt : ∀ {A B C : World}, K A B → K B C → K A C)
    (hKc : ∀ {b : Nat}, b ∉ M → b < w.heap.size → ∀ {W W' : World} {j : Nat} {u : Value}, K W W' → W.cell? ⟨b, j, none⟩ = some u → W'.cell? ⟨b, j, none⟩ = some u) :
    ∃ lb, v = .func (.func 64) #[] lb ∧ SeqStopsK F n Tryz.prog 64 lb (fun x : α => #[Value.int .i64 (val x)]) K (fun ys => ys = zs) (fun pre => pre <+: zs) zs.length w := by
  obtain ⟨bs, u, rfl, hC, a, c, rfl, h1, h2, h3⟩ := h
  refine ⟨_, rfl, fun l J Jx W hW _ _ hY h0 => ?_⟩
  have hBs : W.cell? ⟨bs, 0, none⟩ = some (.slice a xs.length c) := (hW.cell (p := ⟨bs, 0, none⟩) hC.lt).trans (hC.cells.at 0 rfl)
  by_cases hx : xs = []
  · subst hx
    have hz0 : zs = [] := List.map_eq_nil_iff.1 hzs
    subst hz0
    exact (values1_none_in F n h7 hro l bs c a J W hBs h0).mono fun e W' ⟨he, hj⟩ => ⟨he, .inl ⟨_, rfl, hj⟩⟩
  · obtain ⟨b, o, rfl, hbM, hbl, hel⟩ := h3.resolve_left hx
    have hl : zs.length = xs.length := by rw [← hzs, List.length_map]
    rw [hl] at hY
    refine (values1_in F n h7 hro hn l bs b o xs.length c val zs hl hreach K hKr hKt (hKc hbM hbl) J Jx hY W hBs (fun j x hx => ?_) h0).mono ?_
    · have hj : j < xs.length := by have := Sx.get_lt hx; omega
      obtain ⟨cs, hR, hc⟩ := hel j hj
      obtain ⟨rfl, _⟩ := Sx.intE_R.1 hR
      have h9 := hc.at 0 rfl
      have hv : xs[j] = val x := by
        have : xs[j]? = some (val x) := by rw [← hzs, List.getElem?_map, hx]; rfl
        rw [List.getElem?_eq_getElem hj] at this; exact Option.some.inj this
      refine (hW.cell (p := ⟨b, o + j, none⟩) hbl).trans ?_
      rw [← hv]
      simpa [Sx.intE] using h9
    · rintro e W' ⟨he, ⟨ys, rfl, hj⟩ | ⟨pre, ⟨k, rfl⟩, hj⟩⟩
      · exact ⟨he, .inl ⟨_, rfl, hj⟩⟩
      · exact ⟨he, .inr ⟨_, List.take_prefix _ _, hj⟩⟩
end Go.Proofs.YtecmlmngcnionaaGreat
namespace Go.Proofs.YtecmlmngcnionaaGreat
open Go Go.Sx Go.RowKit
/-- What 'on' reads, out of the blocks of M. -/
structure OnEnv (M : List Nat) (w : World) (wk : Works) (spans : List (Int × Span)) (vso vx v1 v2 v4 : Value) (b1 b2 b3 b4 b5 bm : Nat) : Prop where
  mlt : MLt M w
  f0 : InK IntKind.i64 wk.model.traits
  f1 : RdS CardE M w v1 wk.model.cards
  f2 : RdS TreeE M w v2 wk.model.trees
  f3 : InK IntKind.i64 wk.model.need
  f4 : RdS I70E M w v4 wk.parts
  c1 : RdC M w b1 0 [.int .i64 wk.model.traits, v1, v2, .int .i64 wk.model.need, v4]
  c2 : RdC M w b2 0 [vso]
  c3 : RdC M w b3 0 [vx]
  c4 : RdC M w b4 0 [.map (some bm)]
  fm : RdM SpanE true .i64 M w bm spans
  c5 : RdC M w b5 0 [.func (.func 27) #[] [Value.pointer (some ⟨b1, 0, none⟩), .pointer (some ⟨b2, 0, none⟩), .pointer (some ⟨b3, 0, none⟩), .pointer (some ⟨b4, 0, none⟩), .pointer (some ⟨b5, 0, none⟩)].toArray]
theorem OnEnv.adv {M M' : List Nat} {w w' : World} {wk : Works} {spans : List (Int × Span)} {vso vx v1 v2 v4 : Value} {b1 b2 b3 b4 b5 bm : Nat} (h : OnEnv M w wk spans vso vx v1 v2 v4 b1 b2 b3 b4 b5 bm) (ha : Adv M M' w w') (hm : MLt M' w') : OnEnv M' w' wk spans vso vx v1 v2 v4 b1 b2 b3 b4 b5 bm :=
  ⟨hm, h.f0, h.f1.adv ha, h.f2.adv ha, h.f3, h.f4.adv ha, h.c1.adv ha, h.c2.adv ha, h.c3.adv ha, h.c4.adv ha, h.fm.adv ha, h.c5.adv ha⟩
section
variable {S : Type} {H : S → List Nat → World → Prop} (hH : Held H) {D : List Int → Prop} {G : S → Prop} {so : S → List Int → Bool × S} {lists : Nat → Option (List Int)} {wk : Works} {spans : List (Int × Span)} {vso vx v1 v2 v4 : Value} {b1 b2 b3 b4 b5 bm : Nat}
include hH
omit hH in
theorem on_fin {fn : Func} (hr : fn.results = [ResultVar.cell 7 4].toArray) {w : World} {fp : List Nat} {bt br : Nat} {t : Int} {x x' : List Int} {s' : S} {fp1 : List Nat} {b : Bool} {w2 : World} {L : Sx.Env} (h : Mid H vx w fp bt br t x' s' fp1 b w2) (hl : Sx.look L 7 = some (.pointer (some ⟨br, 0, none⟩))) (hx : b = false → x' = x) :
    FinM Tryz.prog fn (OnPost H vx fp x b s' w) [] L w2 :=
  FinM.of (fin_any hr (AllRs.cons (RsOk.one hl (h.rr.rd.cells.at 0 rfl) Tryz.isAgg4) AllRs.nil) rfl (h.post hx))
omit hH in
theorem res_on {fn : Func} (hr : fn.results = [ResultVar.cell 7 4].toArray) {N : Nat} {ds : List Deferred} {L : Sx.Env} {w : World} {br : Nat} {b : Bool} (h : Row 4 w br [.bool b]) (hl : Sx.look L 7 = some (.pointer (some ⟨br, 0, none⟩))) {a : Act} (ha : Knows N ds L a) : (results fn a.tmps).run Tryz.prog w = .ok (.bool b) w := by
  have h1 := (RsOk.one hl (h.rd.cells.at 0 rfl) Tryz.isAgg4 : RsOk Tryz.prog L w (.cell 7 4) (.bool b)).run ha
  rw [results_rd, hr]
  simp [h1]
theorem on_finD {fn : Func} (hr : fn.results = [ResultVar.cell 7 4].toArray) {w : World} {fp : List Nat} {bt br : Nat} {t : Int} {x x' : List Int} {s' : S} {fp1 : List Nat} {b : Bool} {w2 : World} {L : Sx.Env} {d : Nat} (h : Mid H vx w fp bt br t x' s' fp1 b w2) (hl : Sx.look L 7 = some (.pointer (some ⟨br, 0, none⟩))) (hx : b = false → x' = x) (hd : w2.heap[d]? = some (.deferred (some []))) (hwd : w.heap.size ≤ d) :
    FinM Tryz.prog fn (OnPost H vx fp x b s' w) [{ target := .collected d, args := #[] }] L w2 := by
  have h' := h.turn hH (grownBy_putObj' w2 d (.deferred none)) fun j e => by cases e; exact ⟨hwd, _, hd, rfl⟩
  exact .inr ⟨d, _, rfl, run_takeDeferred hd, .bool b, fun a ha => res_on hr h'.rr hl ha, h'.post hx⟩
omit hH in
theorem on_callV {t : Int} {w : World} {R : Ending → World → Prop} (h : Calls Tryz.prog 27 [Value.int .i64 t, .pointer (some ⟨b1, 0, none⟩), .pointer (some ⟨b2, 0, none⟩), .pointer (some ⟨b3, 0, none⟩), .pointer (some ⟨b4, 0, none⟩), .pointer (some ⟨b5, 0, none⟩)].toArray w R) :
    CallsV Tryz.prog (.func (.func 27) #[] [Value.pointer (some ⟨b1, 0, none⟩), .pointer (some ⟨b2, 0, none⟩), .pointer (some ⟨b3, 0, none⟩), .pointer (some ⟨b4, 0, none⟩), .pointer (some ⟨b5, 0, none⟩)].toArray) [Value.int .i64 t] w R :=
  CallsV.ofL Tryz.call27 rfl h
set_option maxRecDepth 100000 in
set_option maxHeartbeats 4000000 in
theorem on_ok (n : Nat) (hn : wk.model.traits = n) (hD : ∀ x, D x → x.length = n ∧ ∀ v ∈ x, InK .i64 v) (hset : ∀ t l v x, lists t = some l → v ∈ l → D x → D (x.set t v)) (hG : ∀ s x, G s → D x → (so s x).1 = false → G (so s x).2)
    (hlist : ∀ t, t < n → match lists t with | none => mget spans (t : Int) = none | some l => ∃ sp, mget spans (t : Int) = some sp ∧ P.score_works_stand wk t sp = some l ∧ l.length ≤ 1000000) :
    ∀ (k t : Nat) (x : List Int) (s : S) (w : World) (fp : List Nat), t + k = n → OnEnv (ob vx ++ fp) w wk spans vso vx v1 v2 v4 b1 b2 b3 b4 b5 bm → ClH Tryz.prog vso D G so H (ob vx ++ fp) w → H s fp w → Sx.Own (intE .i64) 3 0 [] w vx x → (∀ c ∈ ob vx, c ∉ fp) → G s → D x →
      Calls Tryz.prog 27 [Value.int .i64 t, .pointer (some ⟨b1, 0, none⟩), .pointer (some ⟨b2, 0, none⟩), .pointer (some ⟨b3, 0, none⟩), .pointer (some ⟨b4, 0, none⟩), .pointer (some ⟨b5, 0, none⟩)].toArray w (OnPost H vx fp x (onS so lists k t x s).1 (onS so lists k t x s).2 w) := by
  intro k
  induction k using Nat.strongRecOn with
  | _ k ih =>
  intro t x s w fp htk env hso hs hown hsep hg0 hd
  refine calls_cwM Tryz.func27 rfl Tryz.ntmps27 rfl ?_
  refine cw_seq ?_
  refine cw_regF ?_
  refine s_box rfl rfl rfl (fun bt w2 hbt ex2 hlt2 hRt => ?_)
  refine s_al Tryz.zeroValue4 rfl rfl (fun br w3 hbr ex3 hlt3 hRr => ?_)
  refine Reg.nil ?_
  have hold : ∀ c ∈ ob vx ++ fp, c < w.heap.size := env.mlt
  have e23 : Ext w w3 := ex2.trans ex3
  have hm : Mid H vx w fp bt br t x s fp false w3 :=
    ⟨Ext.kp e23, hH.kp hs fun b hb => e23.block b (hold b (List.mem_append_right _ hb)) (by simp), fun c hc => .inl hc, hown.int fun b hb => e23.block b (hold b (List.mem_append_left _ hb)) (by simp), hsep,
     (show Row 3 w2 bt _ from hRt).kp ex3 (by simp), hRr, by omega, by have := ex2.size; omega, by omega, fun hb => by have := hold bt hb; omega, fun hb => by have := hold br hb; have := ex2.size; omega⟩
  have env3 := env.adv hm.adv (hm.mlt hH)
  have hso3 := hso.adv hm.adv
  refine cw_seq ?_
  refine cw_seq ?_
  refine cw_regF ?_
  refine s_ld rfl (hm.rt.rd.cells.at 0 rfl) Tryz.isAgg3 rfl ?_
  refine s_fa rfl Tryz.underlying48 rfl Tryz.sizeOf25 rfl ?_
  refine s_fa rfl Tryz.underlying25 rfl Tryz.sizeOf3 rfl ?_
  refine s_ld rfl (env3.c1.cells.at 0 rfl) Tryz.isAgg3 rfl ?_
  refine s_eql rfl rfl rfl ?_
  refine Reg.nil ?_
  refine cw_cond rfl (fun hc => ?_) (fun hc => ?_)
  · have htn : (t : Int) = wk.model.traits := of_decide_eq_true hc
    obtain rfl : k = 0 := by omega
    refine cw_seq ?_
    refine cw_regF ?_
    refine s_ld rfl (env3.c2.cells.at 0 rfl) Tryz.isAgg59 rfl ?_
    refine s_ld rfl (env3.c3.cells.at 0 rfl) Tryz.isAgg26 rfl ?_
    refine s_callV rfl rfl rfl ?_
    refine (hso3.run (Kp.refl _ _) (fun c hc => .inl (List.mem_append_right _ hc)) hm.hs hg0 ((hm.own.int (M' := fp) fun _ _ => rfl).rd hm.sep) hd).mono ?_
    rintro _ w4 ⟨rfl, hk4, fp4, hs4, hn4⟩
    have hm4 := hm.call hH (hk4.mono fun c hc => .inl (List.mem_append_right _ hc)) hs4 hn4 (hm.own.int fun b hb => hk4.block b (by obtain ⟨_, _, _, h2⟩ := hm.own.isCells b hb; exact heap_lt h2) (hm.sep b hb))
    refine ⟨_, rfl, ?_⟩
    refine s_st rfl rfl rfl hm4.rr Tryz.sizeOf4 rfl rfl (one1 rfl one0) (fun w5 hr5 hk5 => ?_)
    have hm5 := hm4.stR hH hk5 hr5
    refine Reg.nil ?_
    refine cw_ret ?_
    exact on_fin Tryz.results27 hm5 rfl (fun _ => rfl)
  · have htn : ¬ (t : Int) = wk.model.traits := of_decide_eq_false hc
    obtain ⟨k, rfl⟩ : ∃ j, k = j + 1 := ⟨k - 1, by omega⟩
    have hlt : t < n := by omega
    have hl := hlist t hlt
    obtain ⟨hxl, hxin⟩ := hD x hd
    have hint0 : InK .i64 (t : Int) := by have h1 := env.f0; rw [InK.i64] at h1 ⊢; omega
    have hint : InK .i64 ((t + 1 : Nat) : Int) := by have h1 := env.f0; rw [InK.i64] at h1 ⊢; omega
    refine cw_skip ?_
    refine cw_seq ?_
    refine cw_regF ?_
    refine s_ld rfl (env3.c4.cells.at 0 rfl) Tryz.isAgg55 rfl ?_
    refine s_ld rfl (hm.rt.rd.cells.at 0 rfl) Tryz.isAgg3 rfl ?_
    refine s_mlk (z0 := Span.mk 0 0) env3.fm rfl rfl Tryz.underlying55 Tryz.underlying3 Tryz.zeroValue57 ⟨_, SpanE_R.2 ⟨rfl, by decide, by decide⟩, .inl ⟨rfl, rfl⟩⟩ rfl (fun v hv => ?_)
    obtain ⟨cs, hR, hv⟩ := hv
    obtain ⟨rfl, hlo, hhi⟩ := SpanE_R.1 hR
    obtain rfl := (hv.resolve_right fun h => by cases h.1).2
    refine s_mv rfl rfl ?_
    refine s_xt rfl rfl rfl ?_
    refine s_xt rfl rfl rfl ?_
    refine s_al Tryz.zeroValue57 rfl rfl (fun bs w4 hbs ex4 hlt4 hRs => ?_)
    have hRs' : Row 57 w4 bs [.int .i64 0, .int .i64 0] := hRs
    refine s_st rfl rfl rfl hRs' Tryz.sizeOf57 rfl rfl (one1 rfl (one1 rfl one0)) (fun w5 hr5 hk5 => ?_)
    have e35 : Ext w3 w5 := ex4.tail hk5 fun c hc => by
      have : c = bs := by simpa using hc
      omega
    have hm5 := hm.ext hH e35
    have env5 := env3.adv (Adv.of_ext e35) (hm5.mlt hH)
    have hso5 := hso3.adv (Adv.of_ext e35)
    refine s_as rfl rfl ?_
    refine Reg.nil ?_
    refine cw_seq ?_
    refine cw_seq ?_
    refine cw_regF ?_
    refine s_mv rfl rfl ?_
    refine s_not rfl rfl ?_
    refine Reg.nil ?_
    refine cw_cond rfl (fun hc2 => ?_) (fun hc2 => ?_)
    · have hnone : lists t = none ∧ mget spans (t : Int) = none := by
        cases hlt' : lists t with
        | none => rw [hlt'] at hl; exact ⟨rfl, hl⟩
        | some l =>
          rw [hlt'] at hl
          obtain ⟨sp, h1, _⟩ := hl
          rw [h1] at hc2; cases hc2
      have hon : onS so lists (k + 1) t x s = onS so lists k (t + 1) x s := by simp only [onS, hnone.1]
      rw [hon]
      refine cw_seq ?_
      refine cw_regF ?_
      refine s_ld rfl (env5.c5.cells.at 0 rfl) Tryz.isAgg51 rfl ?_
      refine s_ld rfl (hm5.rt.rd.cells.at 0 rfl) Tryz.isAgg3 rfl ?_
      refine p_add rfl rfl rfl (n := ((t + 1 : Nat) : Int)) ⟨by omega, hint⟩ ?_
      refine s_callV rfl rfl rfl ?_
      have hcall := ih k (by omega) (t + 1) x s w5 fp (by omega) env5 hso5 hm5.hs hm5.own hm5.sep hg0 hd
      refine (on_callV hcall).mono ?_
      rintro _ w6 ⟨rfl, hk6, fp6, x6, hs6, hn6, ho6, hx6⟩
      have hm6 := hm5.call hH hk6 hs6 hn6 ho6
      refine ⟨_, rfl, ?_⟩
      refine s_st rfl rfl rfl hm6.rr Tryz.sizeOf4 rfl rfl (one1 rfl one0) (fun w7 hr7 hk7 => ?_)
      have hm7 := hm6.stR hH hk7 hr7
      refine Reg.nil ?_
      refine cw_ret ?_
      exact on_fin Tryz.results27 hm7 rfl hx6
    · obtain ⟨l, hls, sp, hsp, hst, hll⟩ : ∃ l, lists t = some l ∧ ∃ sp, mget spans (t : Int) = some sp ∧ P.score_works_stand wk (t : Int) sp = some l ∧ l.length ≤ 1000000 := by
        cases hlt' : lists t with
        | none => rw [hlt'] at hl; rw [hl] at hc2; cases hc2
        | some l => rw [hlt'] at hl; exact ⟨l, rfl, hl⟩
      have hr5' : Row 57 w5 bs [.int .i64 sp.lo, .int .i64 sp.hi] := by rw [hsp] at hr5; exact hr5
      rw [hsp] at hlo hhi
      have hon : onS so lists (k + 1) t x s = runL (fun s v => onS so lists k (t + 1) (x.set t v) s) s l := by simp only [onS, hls]
      rw [hon]
      clear hr5 hsp
      have htx : t < x.length := by omega
      have hxt : x[t]? = some x[t] := List.getElem?_eq_getElem htx
      refine cw_skip ?_
      refine cw_seq ?_
      refine cw_regF ?_
      refine s_ld rfl (env5.c3.cells.at 0 rfl) Tryz.isAgg26 rfl ?_
      refine s_ld rfl (hm5.rt.rd.cells.at 0 rfl) Tryz.isAgg3 rfl ?_
      refine s_iaO rfl rfl hm5.own ⟨by omega, by omega⟩ Tryz.underlying26 Tryz.sizeOf3 rfl (fun g hg => ?_)
      obtain ⟨cs, hcR, hcC⟩ := hm5.own.cellsAt hg hxt
      obtain ⟨rfl, hxin'⟩ := intE_R.1 hcR
      refine s_ld rfl (hcC.at 0 rfl) Tryz.isAgg3 rfl ?_
      refine s_as rfl rfl ?_
      refine Reg.nil ?_
      refine cw_seq ?_
      refine cw_seq ?_
      refine cw_regF ?_
      refine s_lda rfl env5.c1.cells Tryz.isAgg48 rfl Tryz.sizeOf48 rfl ?_
      refine s_ld rfl (hm5.rt.rd.cells.at 0 rfl) Tryz.isAgg3 rfl ?_
      refine s_lda rfl hr5'.rd.cells Tryz.isAgg57 rfl Tryz.sizeOf57 rfl ?_
      refine s_call rfl Tryz.call28 rfl ?_
      refine (C_score_works_stand env5.mlt env5.f0 env5.f1 env5.f2 env5.f3 env5.f4 hint0 hlo hhi hst).mono ?_
      rintro _ w6 ⟨v6, rfl, hit, ex6⟩
      refine ⟨_, rfl, ?_⟩
      refine Reg.nil ?_
      have hm6 := hm5.ext hH ex6
      have env6 := env5.adv (Adv.of_ext ex6) (hm6.mlt hH)
      have hso6 := hso5.adv (Adv.of_ext ex6)
      obtain ⟨lb, rfl, hseq⟩ := values_stops Fence.wide 2 trivial rfl (by omega) hit (Subtype.val : {v // v ∈ l} → Int) l.attach (by simp) (by omega) (fun W W' => W.heap.size ≤ W'.heap.size ∧ ∀ b, b < w6.heap.size → b ∉ ob vx ++ fp → W'.heap[b]? = W.heap[b]?)
        (fun W => ⟨Nat.le_refl _, fun _ _ _ => rfl⟩) (fun h1 h2 => ⟨Nat.le_trans h1.1 h2.1, fun b hb hn => (h2.2 b hb hn).trans (h1.2 b hb hn)⟩)
        (fun {b} hb hlt {W W' j u} hk hc => by rw [World.cell?_of_block (w := W) (hk.2 _ hlt hb)]; exact hc)
      refine cw_block ?_
      refine cw_range (val := (Subtype.val : {v // v ∈ l} → Int)) rfl Tryz.call64 rfl hseq (fun h1 h2 => ⟨Nat.le_trans h1.1 h2.1, fun b hb hn => (h2.2 b hb hn).trans (h1.2 b hb hn)⟩) ?_
        (fun pre W => ∃ (u : Int) (s1 : S) (fp1 : List Nat), runL (fun s v => onS so lists k (t + 1) (x.set t v) s) s (pre.map Subtype.val) = (false, s1) ∧ G s1 ∧ Mid H vx w fp bt br t (x.set t u) s1 fp1 false W ∧ (∀ c ∈ fp1, c ∈ fp ∨ w6.heap.size ≤ c) ∧ w6.heap.size ≤ W.heap.size)
        (fun pre W => ∃ (x1 : List Int) (s1 : S) (fp1 : List Nat), runL (fun s v => onS so lists k (t + 1) (x.set t v) s) s (pre.map Subtype.val) = (true, s1) ∧ Mid H vx w fp bt br t x1 s1 fp1 true W) ?_ ?_ ?_
        (fun v L' W => Sub [(3, .pointer (some ⟨b3, 0, none⟩)), (5, .pointer (some ⟨b5, 0, none⟩)), (6, .pointer (some ⟨bt, 0, none⟩)), (7, .pointer (some ⟨br, 0, none⟩))] L' ∧ W.cell? ⟨g, t * (intE .i64).n + 0, none⟩ = some (.int .i64 v.val)) ?_ ?_ ?_ ?_ ?_
      · intro W l' o o' hl' hW _ _
        exact ⟨by simp, fun b hb _ => World.putObj_heap_other (by omega)⟩
      · rintro pre W W' row ⟨u, s1, fp1, h1, hg1, h2, h3, h4⟩ hg' hr
        exact ⟨u, s1, fp1, h1, hg1, h2.turn hH hg' (fun j e => ⟨by have := (hr j e).1; have := hm6.kp.size; omega, (hr j e).2⟩), h3, Nat.le_trans h4 hg'.size⟩
      · rintro pre W W' row ⟨x1, s1, fp1, h1, h2⟩ hg' hr
        exact ⟨x1, s1, fp1, h1, h2.turn hH hg' (fun j e => ⟨by have := (hr j e).1; have := hm6.kp.size; omega, (hr j e).2⟩)⟩
      · exact ⟨x[t], s, fp, rfl, hg0, by rw [List.set_getElem_self]; exact hm6, fun c hc => .inl hc, Nat.le_refl _⟩
      · rintro v L' _ W W' row ⟨h1, h2⟩ hg' hr
        refine ⟨h1, ?_⟩
        have hne : row ≠ some g := fun e => by
          obtain ⟨o, ho, hc⟩ := (hr g e).2
          simp only [World.cell?, ho] at h2
          cases o <;> simp_all [Obj.isCells]
        exact (World.cell?_of_block (w := W) (hg'.block g (cell_lt h2) (Ne.symm hne))).trans h2
      · rintro l' pre v W ⟨u, s1, fp1, hr1, hg1, hmW, hf1, hsz⟩
        have envW := env.adv hmW.adv (hmW.mlt hH)
        have hdv := hset t l v.val x hls v.2 hd
        have hinv : InK .i64 v.val := (hD _ hdv).2 _ (List.mem_of_getElem? (i := t) (by rw [List.getElem?_set_self htx]))
        refine ci_reg rfl ?_
        refine s_ld rfl (envW.c3.cells.at 0 rfl) Tryz.isAgg26 rfl ?_
        refine s_ld rfl (hmW.rt.rd.cells.at 0 rfl) Tryz.isAgg3 rfl ?_
        refine s_iaO rfl rfl hmW.own ⟨by omega, by rw [List.length_set]; omega⟩ Tryz.underlying26 Tryz.sizeOf3 rfl (fun g' hg' => ?_)
        have hgg : g' = g := by rw [hg] at hg'; simpa using hg'.symm
        subst hgg
        refine s_stO (E := intE .i64) (j := t) rfl rfl rfl hmW.own hg (by rw [List.length_set]; omega) (intE_R.2 ⟨rfl, hinv⟩) Tryz.sizeOf3 (fun W' ho hk => ?_)
        rw [List.set_set] at ho
        have hmW' := hmW.stX hH hk ho
        have hvt : (x.set t v.val)[t]? = some v.val := List.getElem?_set_self htx
        obtain ⟨cs, hcR', hcC'⟩ := ho.cellsAt hg hvt
        obtain ⟨rfl, _⟩ := intE_R.1 hcR'
        refine Reg.nil ⟨rfl, ⟨hk.size, fun k o hB hko hc => (hk.block k (heap_lt hko) fun hm => hmW.noncells hH hko hc (List.mem_append_left _ hm)).trans hko⟩, ⟨hk.size, fun b hb hn => hk.block b (by omega) fun hm => hn (List.mem_append_left _ hm)⟩,
          ⟨v.val, s1, fp1, hr1, hg1, hmW', hf1, Nat.le_trans hsz hk.size⟩, Sub.cons rfl (Sub.cons rfl (Sub.cons rfl (Sub.cons rfl (Sub.nil _)))), hcC'.at 0 rfl⟩
      · rintro l' pre v L' W ⟨u, s1, fp1, hr1, hg1, hmW, hf1, hsz⟩ ⟨hsub, hcell⟩ hlen
        refine ci_sub hsub ?_
        have hxu : (x.set t u)[t]? = some u := List.getElem?_set_self htx
        obtain ⟨cs, hcR', hcC'⟩ := hmW.own.cellsAt hg hxu
        obtain ⟨rfl, _⟩ := intE_R.1 hcR'
        have huv : u = v.val := by
          have h1 := hcC'.at 0 rfl
          rw [hcell] at h1
          injection h1 with h1
          injection h1 with _ h1
          exact h1.symm
        subst huv
        have envW := env.adv hmW.adv (hmW.mlt hH)
        have hsoW := hso.adv hmW.adv
        refine ci_block ?_
        refine ci_seq ?_
        refine ci_reg rfl ?_
        refine s_ld rfl (envW.c5.cells.at 0 rfl) Tryz.isAgg51 rfl ?_
        refine s_ld rfl (hmW.rt.rd.cells.at 0 rfl) Tryz.isAgg3 rfl ?_
        refine p_add rfl rfl rfl (n := ((t + 1 : Nat) : Int)) ⟨by omega, hint⟩ ?_
        refine s_callV rfl rfl rfl ?_
        have hcall := ih k (by omega) (t + 1) (x.set t v.val) s1 W fp1 (by omega) envW hsoW hmW.hs hmW.own hmW.sep hg1 (hset t l v.val x hls v.2 hd)
        refine (on_callV hcall).mono ?_
        rintro _ W4 ⟨rfl, hk4, fp4, x4, hs4, hn4, ho4, hx4⟩
        have hm4 := hmW.call hH hk4 hs4 hn4 ho4
        have hkeep : ∀ (k : Nat) (o : Obj), W.heap[k]? = some o → o.isCells = false → W4.heap[k]? = some o := fun k o hko hc => (hk4.block k (heap_lt hko) (hmW.noncells hH hko hc)).trans hko
        refine ⟨_, rfl, Reg.nil ?_⟩
        refine ci_cond rfl (fun hc => ?_) (fun hc => ?_)
        · refine ci_seq ?_
          refine ci_reg rfl ?_
          refine s_st rfl rfl rfl hm4.rr Tryz.sizeOf4 rfl rfl (one1 rfl one0) (fun W5 hr5 hk5 => ?_)
          have hm5' := hm4.stR hH hk5 hr5
          refine Reg.nil ?_
          refine ci_ret ?_
          refine ⟨⟨Nat.le_trans hk4.size hk5.size, fun k o hB hko hc' => ?_⟩, x4, _, fp4, ?_, hm5'⟩
          · have h1 := hkeep k o hko hc'
            refine (hk5.block k (heap_lt h1) fun hm => ?_).trans h1
            have : k = br := by simpa using hm
            subst this
            have h2 : W4.heap[k]? = _ := hm4.rr
            rw [h1] at h2
            cases h2; cases hc'
          · rw [List.map_append, List.map_singleton, runL_no hr1]
            exact Prod.ext hc rfl
        · refine ci_skip ?_
          refine ⟨⟨hk4.size, fun k o hB hko hc' => hkeep k o hko hc'⟩, ⟨hk4.size, fun b hb hn => hk4.block b (by omega) fun hm => ?_⟩, v.val, _, fp4, ?_, onS_G hG hset k (t + 1) _ _ (hset t l v.val x hls v.2 hd) hg1 hc, by rw [hx4 hc] at hm4; exact hm4, fun c hc' => ?_, Nat.le_trans hsz hk4.size⟩
          · rcases List.mem_append.1 hm with h1 | h1
            · exact hn (List.mem_append_left _ h1)
            · rcases hf1 b h1 with h2 | h2
              · exact hn (List.mem_append_right _ h2)
              · omega
          · rw [List.map_append, List.map_singleton, runL_no hr1]
            exact Prod.ext hc rfl
          · rcases hn4 c hc' with h1 | h1
            · exact hf1 c h1
            · exact .inr (Nat.le_trans hsz h1)
      · rintro d W hd' ⟨u, s1, fp1, hr1, hg1, hmW, hf1, hsz⟩ hdef
        have hr2 : runL (fun s v => onS so lists k (t + 1) (x.set t v) s) s l = (false, s1) := by rw [← hr1]; simp
        rw [hr2]
        have envW := env.adv hmW.adv (hmW.mlt hH)
        refine cw_seq ?_
        refine cw_regF ?_
        refine s_ld rfl (envW.c3.cells.at 0 rfl) Tryz.isAgg26 rfl ?_
        refine s_ld rfl (hmW.rt.rd.cells.at 0 rfl) Tryz.isAgg3 rfl ?_
        refine s_mv rfl rfl ?_
        refine s_iaO rfl rfl hmW.own ⟨by omega, by rw [List.length_set]; omega⟩ Tryz.underlying26 Tryz.sizeOf3 rfl (fun g' hg' => ?_)
        have hgg : g' = g := by rw [hg] at hg'; simpa using hg'.symm
        subst hgg
        refine s_stO (E := intE .i64) (j := t) rfl rfl rfl hmW.own hg (by rw [List.length_set]; omega) (intE_R.2 ⟨rfl, hxin'⟩) Tryz.sizeOf3 (fun W2 ho hk => ?_)
        rw [List.set_set, List.set_getElem_self] at ho
        have hm2 := hmW.stX hH hk ho
        have hd2 : W2.heap[d]? = some (.deferred (some [])) := (hk.block d (heap_lt hdef) fun hm => hmW.noncells hH hdef rfl (List.mem_append_left _ hm)).trans hdef
        refine Reg.nil ?_
        refine cw_seq ?_
        refine cw_regF ?_
        refine s_st rfl rfl rfl hm2.rr Tryz.sizeOf4 rfl rfl (one1 rfl one0) (fun W3 hr3 hk3 => ?_)
        have hm3 := hm2.stR hH hk3 hr3
        have hd3 : W3.heap[d]? = some (.deferred (some [])) := by
          refine (hk3.block d (heap_lt hd2) fun hm => ?_).trans hd2
          have : d = br := by simpa using hm
          subst this
          have h2 : W2.heap[d]? = _ := hm2.rr
          rw [hd2] at h2; cases h2
        refine Reg.nil ?_
        refine cw_ret ?_
        exact on_finD hH Tryz.results27 hm3 rfl (fun _ => rfl) hd3 (Nat.le_trans hm6.kp.size hd')
      · rintro d pre W hd' hpre ⟨x1, s1, fp1, hr1, hmW⟩ hdef
        have hp2 : pre.map Subtype.val <+: l := by
          have := hpre.map (Subtype.val : {v // v ∈ l} → Int)
          simpa using this
        rw [runL_yes hr1 hp2]
        exact on_finD hH Tryz.results27 hmW rfl (fun h => by cases h) hdef (Nat.le_trans hm6.kp.size hd')
end
end Go.Proofs.YtecmlmngcnionaaGreat
namespace Go.Proofs.YtecmlmngcnionaaGreat
open Go Go.Sx Go.RowKit
set_option maxRecDepth 100000 in
set_option maxHeartbeats 4000000 in
theorem try_ok {S : Type} {H : S → List Nat → World → Prop} (hH : Held H) {D : List Int → Prop} {G : S → Prop} {so : S → List Int → Bool × S} {lists : Nat → Option (List Int)} {wk : Works} {spans : List (Int × Span)} {vso v0 v1 v2 v4 : Value} {bm : Nat}
    (n : Nat) (hn : wk.model.traits = n) (hD : ∀ x, D x → x.length = n ∧ ∀ v ∈ x, InK .i64 v) (hset : ∀ t l v x, lists t = some l → v ∈ l → D x → D (x.set t v)) (hG : ∀ s x, G s → D x → (so s x).1 = false → G (so s x).2)
    (hlist : ∀ t, t < n → match lists t with | none => mget spans (t : Int) = none | some l => ∃ sp, mget spans (t : Int) = some sp ∧ P.score_works_stand wk t sp = some l ∧ l.length ≤ 1000000)
    (hn6 : n ≤ 1000000) {M : List Nat} {w : World} (hM : MLt M w) (f0 : InK IntKind.i64 wk.model.traits) (f1 : RdS CardE M w v1 wk.model.cards) (f2 : RdS TreeE M w v2 wk.model.trees) (f3 : InK IntKind.i64 wk.model.need) (f4 : RdS I70E M w v4 wk.parts)
    {x : List Int} (fx : RdS (intE .i64) M w v0 x) (fm : RdM SpanE true .i64 M w bm spans) (kso : vso.cells = [vso].toArray ∧ vso.oneCell' = true) {fp : List Nat} {s : S} (hso : ClH Tryz.prog vso D G so H M w) (hs : H s fp w) (hfp : ∀ c ∈ fp, c ∈ M) (hg : G s) (hd : D x) :
    Calls Tryz.prog 14 [Value.agg [Value.int IntKind.i64 wk.model.traits, v1, v2, Value.int IntKind.i64 wk.model.need, v4].toArray, v0, .map (some bm), vso].toArray w fun e w' =>
      e = .returned (.bool (onS so lists n 0 x s).1) ∧ Kp fp w w' ∧ ∃ fp', H (onS so lists n 0 x s).2 fp' w' ∧ ∀ c ∈ fp', c ∈ fp ∨ w.heap.size ≤ c := by
  have hI := Hp.start (Mu := []) hM
  obtain ⟨hxl, hxi⟩ := hD x hd
  refine calls_cw Tryz.func14 rfl Tryz.ntmps14 rfl ?_
  refine cw_seq ?_
  refine cw_regF ?_
  refine y_box hI rfl rfl rfl (fun b1 w1 hI1 a1 => ?_)
  refine y_box hI1 rfl (RdS.cells1 fx) rfl (fun b3 w2 hI2 a2 => ?_)
  refine y_box hI2 rfl rfl rfl (fun b4 w3 hI3 a3 => ?_)
  refine y_box hI3 rfl kso.1 rfl (fun b2 w4 hI4 a4 => ?_)
  refine s_as rfl rfl ?_
  refine Reg.nil ?_
  have a14 := a1.trans (a2.trans (a3.trans a4))
  refine cw_seq ?_
  refine cw_regF ?_
  refine y_al hI4 Tryz.zeroValue51 rfl rfl (fun b5 w5 hI5 a5 => ?_)
  refine Reg.nil ?_
  have a15 := a14.trans a5
  refine cw_seq ?_
  refine cw_regF ?_
  refine s_ld rfl ((hI5.row 3 rfl).rd.cells.at 0 rfl) Tryz.isAgg26 rfl ?_
  refine s_call rfl Tryz.call26 rfl ?_
  refine (C_slices_Clone_26 hI5.mlt (fx.adv a15) (Go.Proofs.YtecmlmngcnionaaGreat.S.p_clone x (by omega))).mono ?_
  rintro _ w6 ⟨vx, rfl, hox, ex6⟩
  refine ⟨_, rfl, ?_⟩
  have hI6 := hI5.addOwn ex6 hox
  refine y_st 4 hI6 rfl rfl rfl (Own.cells1 hox.1) Tryz.sizeOf26 rfl rfl (one1 (Own.oneC hox.1) one0) (fun w7 hI7 a7 => ?_)
  refine Reg.nil ?_
  refine cw_seq ?_
  refine cw_regF ?_
  refine s_mf rfl rfl ?_
  refine y_st 1 hI7 rfl rfl rfl rfl Tryz.sizeOf51 rfl rfl (one1 rfl one0) (fun w8 hI8 a8 => ?_)
  refine Reg.nil ?_
  have a16 := a15.trans (hI5.addOwnA ex6 hox)
  have a18 := a16.trans (a7.trans a8)
  refine cw_seq ?_
  refine cw_regF ?_
  refine s_ld rfl ((hI8.row 1 rfl).rd.cells.at 0 rfl) Tryz.isAgg51 rfl ?_
  refine s_callV rfl rfl rfl ?_
  have hown8 := hI8.ownAt 0 rfl
  have hin0 : ∀ b ∈ ob vx, b ∈ mm [ownR [] (intE .i64) 3 vx x] M := fun b hb => mem_mm.2 (.inl ⟨_, List.mem_cons_self .., hb⟩)
  have hnew : ∀ b ∈ ob vx, w.heap.size ≤ b := (hI8.ownOut 0 rfl).2
  have hsep : ∀ b ∈ ob vx, b ∉ M := fun b hb hb' => by
    have h1 := hnew b hb
    have h2 := hM b hb'
    omega
  have hsub : ∀ (τ : List Res), ∀ b ∈ ob vx ++ fp, b ∈ mm (ownR [] (intE .i64) 3 vx x :: τ) M := fun τ b hb => by
    rcases List.mem_append.1 hb with h1 | h1
    · exact mem_mm.2 (.inl ⟨_, List.mem_cons_self .., h1⟩)
    · exact mem_mm.2 (.inr (hfp b h1))
  have a19 := a18.trans (Adv.drop (hsub _))
  have env : OnEnv (ob vx ++ fp) w8 wk spans vso vx v1 v2 v4 b1 b2 b3 b4 b5 bm :=
    ⟨fun b hb => hI8.mlt b (hsub _ b hb), f0, f1.adv a19, f2.adv a19, f3, f4.adv a19, (hI8.freezeRow 5 rfl).adv (Adv.drop (hsub _)), (hI8.freezeRow 2 rfl).adv (Adv.drop (hsub _)), (hI8.freezeRow 4 rfl).adv (Adv.drop (hsub _)), (hI8.freezeRow 3 rfl).adv (Adv.drop (hsub _)), fm.adv a19, (hI8.freezeRow 1 rfl).adv (Adv.drop (hsub _))⟩
  have hcall := on_ok hH n hn hD hset hG hlist n 0 x s w8 fp (by omega) env (hso.adv a19) (hH.kp hs fun b hb => hI8.kp.block b (hM b (hfp b hb)) (by simp)) (hown8.int fun _ _ => rfl) (fun c hc hc' => hsep c hc (hfp c hc')) hg hd
  refine (on_callV hcall).mono ?_
  rintro _ w9 ⟨rfl, hk9, fp9, x9, hs9, hn9, ho9, hx9⟩
  refine ⟨_, rfl, ?_⟩
  refine s_as rfl rfl ?_
  refine Reg.nil ?_
  refine cw_ret ?_
  refine fin1 Tryz.results14 rfl ⟨rfl, (Ext.kp hI8.kp).tail hk9 fun c hc => ?_, fp9, hs9, fun c hc => ?_⟩
  · rcases List.mem_append.1 hc with h1 | h1
    · exact .inr (hnew c h1)
    · exact .inl h1
  · rcases hn9 c hc with h1 | h1
    · exact .inl h1
    · exact .inr (Nat.le_trans hI8.kp.size h1)
end Go.Proofs.YtecmlmngcnionaaGreat
namespace Go.Proofs.YtecmlmngcnionaaGreat
open Go Go.Sx
namespace S
def okSpan (s : Span) : Bool := decide (0 ≤ s.lo ∧ s.lo ≤ 1000000 ∧ 0 ≤ s.hi ∧ s.hi ≤ 1000000 ∧ s.lo ≤ s.hi)
/-- What the program makes of a part's cuts. -/
def cutsOf (trait : Nat) : I70 → List Int
  | .c83 c => ((c.scales[trait]?).map (·.cuts)).getD []
  | .c84 t => (t.nodes.filter fun n => decide (n.trait = (trait : Int))).map (·.cut)
end S
end Go.Proofs.YtecmlmngcnionaaGreat
namespace Go.Proofs.YtecmlmngcnionaaGreat
open Go Go.Sx
namespace S
def fitPart (trait : Nat) : I70 → Prop
  | .c83 c => ∃ sc, c.scales[trait]? = some sc ∧ sc.cuts.length ≤ 7
  | .c84 t => t.nodes.length ≤ 7
theorem cutsOf_len {trait : Nat} : ∀ {p : I70}, fitPart trait p → (cutsOf trait p).length ≤ 7
  | .c83 c, ⟨sc, h1, h2⟩ => by simp only [cutsOf, h1, Option.map_some, Option.getD_some]; exact h2
  | .c84 t, h => by
    have h : t.nodes.length ≤ 7 := h
    have := List.length_filter_le (fun n : Node => decide (n.trait = (trait : Int))) t.nodes
    simp only [cutsOf, List.length_map]; omega
theorem cuts_len {trait : Nat} : ∀ (l : List I70), (∀ p ∈ l, fitPart trait p) → (l.flatMap (cutsOf trait)).length ≤ 7 * l.length
  | [], _ => by simp
  | p :: l, h => by
    have h1 := cutsOf_len (h p (List.mem_cons_self ..))
    have h2 := cuts_len l fun q hq => h q (List.mem_cons_of_mem _ hq)
    simp only [List.flatMap_cons, List.length_append, List.length_cons]; omega
theorem p_nodes (t : Tree) (trait : Nat) (l0 : List Int) (ht : t.nodes.length ≤ 7) (hl : l0.length ≤ 1000) :
    loopM (S := (List Int) × Int) (R := ((List Int))) (fun (x77, x78) => cond (decide (x78 < (t.nodes.length : Int))) (Option.bind (Option.bind (ixo t.nodes x78) fun y80 => Option.bind (cond (decide (y80.trait = (trait : Int))) (Option.bind (appo 8 x77 ([y80.cut] : List Int)) fun l107 => some l107) (some x77)) fun x112 => some x112) fun x113 => Option.bind (chk .i64 (x78 + 1)) fun n114 => some (.inl (x113, n114))) (some (.inr x77))) (l0, 0) = some (l0 ++ cutsOf trait (.c84 t)) := by
  have hF : ∀ i, (l0 ++ ((t.nodes.take i).filter fun n => decide (n.trait = (trait : Int))).map (·.cut)).length ≤ l0.length + 7 := fun i => by
    have h1 := List.length_filter_le (fun n : Node => decide (n.trait = (trait : Int))) (t.nodes.take i)
    have h2 : (t.nodes.take i).length ≤ 7 := by rw [List.length_take]; omega
    simp only [List.length_append, List.length_map]; omega
  have := loop_fold t.nodes.length (fun i => l0 ++ ((t.nodes.take i).filter fun n => decide (n.trait = (trait : Int))).map (·.cut)) (l0 ++ cutsOf trait (.c84 t))
    (body := (fun (x77, x78) => cond (decide (x78 < (t.nodes.length : Int))) (Option.bind (Option.bind (ixo t.nodes x78) fun y80 => Option.bind (cond (decide (y80.trait = (trait : Int))) (Option.bind (appo 8 x77 ([y80.cut] : List Int)) fun l107 => some l107) (some x77)) fun x112 => some x112) fun x113 => Option.bind (chk .i64 (x78 + 1)) fun n114 => some (.inl (x113, n114))) (some (.inr x77))))
    (fun i hi => by
      have hy := List.getElem?_eq_getElem hi
      have h3 := hF i
      have hT : ∀ e : t.nodes[i].trait = (trait : Int), l0 ++ ((t.nodes.take (i + 1)).filter fun n => decide (n.trait = (trait : Int))).map (·.cut) = (l0 ++ ((t.nodes.take i).filter fun n => decide (n.trait = (trait : Int))).map (·.cut)) ++ [t.nodes[i].cut] := fun e => by
        rw [List.take_add_one, hy, Option.toList_some, List.filter_append, List.map_append, List.filter_cons_of_pos (p := fun n : Node => decide (n.trait = (trait : Int))) (decide_eq_true e), List.append_assoc]; rfl
      have hN : ∀ e : ¬ t.nodes[i].trait = (trait : Int), l0 ++ ((t.nodes.take (i + 1)).filter fun n => decide (n.trait = (trait : Int))).map (·.cut) = l0 ++ ((t.nodes.take i).filter fun n => decide (n.trait = (trait : Int))).map (·.cut) := fun e => by
        rw [List.take_add_one, hy, Option.toList_some, List.filter_append, List.map_append, List.filter_cons_of_neg (p := fun n : Node => decide (n.trait = (trait : Int))) (by simpa using e), List.filter_nil, List.map_nil, List.append_nil]
      simp only [lt_cast hi, condT]
      rw [ixo_at hy, bindS]
      by_cases e : t.nodes[i].trait = (trait : Int)
      · rw [hT e, decide_eq_true e, condT, appo_ok (by simp only [List.length_singleton]; omega) (by simp only [List.length_singleton]; omega), bindS, bindS, bindS, chk_nat (by omega), bindS]
      · rw [hN e, decide_eq_false e, condF, bindS, bindS, chk_nat (by omega), bindS]) (by simp only [not_lt_cast, condF, List.take_length]; rfl)
  simpa using this
theorem p_cuts (parts : List I70) (trait : Nat) (s : Span) (hp : ∀ p ∈ parts, fitPart trait p) (hl : parts.length ≤ 12) :
    loopM (S := (List Int) × Int) (R := ((List Int))) (fun (x17, x18) => cond (decide (x18 < (parts.length : Int))) (Option.bind (Option.bind (ixo parts x18) fun y20 => Option.bind (Option.bind (cond (I70.is83 y20) (Option.bind (ixo ((I70.as83 y20).scales) (trait : Int)) fun y45 => Option.bind (appo 8 x17 y45.cuts) fun l56 => some l56) (Option.bind (cond (I70.is84 y20) (Option.bind (loopM (S := (List Int) × Int) (R := ((List Int))) (fun (x77, x78) => cond (decide (x78 < (((I70.as84 y20).nodes).length : Int))) (Option.bind (Option.bind (ixo ((I70.as84 y20).nodes) x78) fun y80 => Option.bind (cond (decide (y80.trait = (trait : Int))) (Option.bind (appo 8 x77 ([y80.cut] : List Int)) fun l107 => some l107) (some x77)) fun x112 => some x112) fun x113 => Option.bind (chk .i64 (x78 + 1)) fun n114 => some (.inl (x113, n114))) (some (.inr x77))) (x17, 0)) fun x115 => some x115) (some x17)) fun x116 => some x116)) fun x117 => some x117) fun x118 => some x118) fun x119 => Option.bind (chk .i64 (x18 + 1)) fun n120 => some (.inl (x119, n120))) (some (.inr x17))) (([s.lo] : List Int), 0) = some (s.lo :: parts.flatMap (cutsOf trait)) := by
  have hF : ∀ i, (s.lo :: (parts.take i).flatMap (cutsOf trait)).length ≤ 1 + 7 * 12 := fun i => by
    have h1 := cuts_len (parts.take i) fun p h => hp p (List.mem_of_mem_take h)
    have h2 : (parts.take i).length ≤ 12 := by rw [List.length_take]; omega
    simp only [List.length_cons]; omega
  have := loop_fold parts.length (fun i => s.lo :: (parts.take i).flatMap (cutsOf trait)) (s.lo :: parts.flatMap (cutsOf trait))
    (body := (fun (x17, x18) => cond (decide (x18 < (parts.length : Int))) (Option.bind (Option.bind (ixo parts x18) fun y20 => Option.bind (Option.bind (cond (I70.is83 y20) (Option.bind (ixo ((I70.as83 y20).scales) (trait : Int)) fun y45 => Option.bind (appo 8 x17 y45.cuts) fun l56 => some l56) (Option.bind (cond (I70.is84 y20) (Option.bind (loopM (S := (List Int) × Int) (R := ((List Int))) (fun (x77, x78) => cond (decide (x78 < (((I70.as84 y20).nodes).length : Int))) (Option.bind (Option.bind (ixo ((I70.as84 y20).nodes) x78) fun y80 => Option.bind (cond (decide (y80.trait = (trait : Int))) (Option.bind (appo 8 x77 ([y80.cut] : List Int)) fun l107 => some l107) (some x77)) fun x112 => some x112) fun x113 => Option.bind (chk .i64 (x78 + 1)) fun n114 => some (.inl (x113, n114))) (some (.inr x77))) (x17, 0)) fun x115 => some x115) (some x17)) fun x116 => some x116)) fun x117 => some x117) fun x118 => some x118) fun x119 => Option.bind (chk .i64 (x18 + 1)) fun n120 => some (.inl (x119, n120))) (some (.inr x17))))
    (fun i hi => by
      have hy := List.getElem?_eq_getElem hi
      have h3 := hF i
      have hg := hp parts[i] (List.getElem_mem hi)
      have htk : (s.lo :: (parts.take (i + 1)).flatMap (cutsOf trait)) = (s.lo :: (parts.take i).flatMap (cutsOf trait)) ++ cutsOf trait parts[i] := by
        rw [List.take_add_one, hy, Option.toList_some, List.flatMap_append, List.flatMap_cons, List.flatMap_nil, List.append_nil]; rfl
      rw [htk]
      dsimp only
      rw [lt_cast hi, condT, ixo_at hy, bindS]
      cases hpi : parts[i] with
      | c83 c =>
        rw [hpi] at hg
        obtain ⟨sc, h1, h2⟩ := hg
        have e1 : I70.is83 (.c83 c) = true := rfl
        have e2 : I70.as83 (.c83 c) = c := rfl
        have e3 : cutsOf trait (.c83 c) = sc.cuts := by simp [cutsOf, h1]
        rw [e1, condT, e2, ixo_at h1, bindS, appo_ok (by omega) (by omega), bindS, bindS, bindS, bindS, chk_nat (by omega), bindS, e3]
      | c84 t =>
        rw [hpi] at hg
        have hg : t.nodes.length ≤ 7 := hg
        have e1 : I70.is83 (.c84 t) = false := rfl
        have e2 : I70.is84 (.c84 t) = true := rfl
        have e3 : I70.as84 (.c84 t) = t := rfl
        rw [e1, condF, e2, condT, e3, p_nodes t trait _ hg (by omega), bindS, bindS, bindS, bindS, bindS, chk_nat (by omega), bindS]) (by simp only [not_lt_cast, condF, List.take_length])
  simpa using this
theorem fit_parts (m : Model) (trait : Nat) (hm : modelOk m = true) (ht : (trait : Int) < m.traits) : ∀ p ∈ partsOf m, fitPart trait p := by
  obtain ⟨hm1, hm2, hm3, hm4, hm5, hm6, hm7⟩ := modelOk_iff.1 hm
  intro p hp
  rcases List.mem_append.1 hp with h | h
  · obtain ⟨c, hc, rfl⟩ := List.mem_map.1 h
    obtain ⟨j, hj⟩ := List.getElem?_of_mem hc
    obtain ⟨_, _, _, hk4, hk5⟩ := cardOk_iff.1 (hm6 j c hj)
    have hts : trait < c.scales.length := by omega
    have hsc := List.getElem?_eq_getElem hts
    have := (scaleOk_iff.1 (hk5 trait _ hsc)).1
    exact ⟨_, hsc, by omega⟩
  · obtain ⟨t, hc, rfl⟩ := List.mem_map.1 h
    obtain ⟨j, hj⟩ := List.getElem?_of_mem hc
    exact (treeOk_iff.1 (hm7 j t hj)).2.2.2.1
theorem cuts_mem (m : Model) (trait : Nat) (x : Int) : x ∈ (partsOf m).flatMap (cutsOf trait) ↔ CutOf m trait x := by
  unfold CutOf
  rw [List.mem_flatMap]
  constructor
  · rintro ⟨p, hp, hx⟩
    rcases List.mem_append.1 hp with h | h
    · obtain ⟨c, hc, rfl⟩ := List.mem_map.1 h
      simp only [cutsOf] at hx
      cases hs : c.scales[trait]? with
      | none => rw [hs] at hx; cases hx
      | some sc => rw [hs] at hx; exact .inl ⟨c, hc, sc, hs, by simpa using hx⟩
    · obtain ⟨t, ht, rfl⟩ := List.mem_map.1 h
      simp only [cutsOf, List.mem_map, List.mem_filter, decide_eq_true_eq] at hx
      obtain ⟨n, ⟨h1, h2⟩, h3⟩ := hx
      exact .inr ⟨t, ht, n, h1, h2, h3.symm⟩
  · rintro (⟨c, hc, sc, hs, hx⟩ | ⟨t, ht, n, h1, h2, h3⟩)
    · exact ⟨.c83 c, List.mem_append_left _ (List.mem_map_of_mem hc), by simp [cutsOf, hs, hx]⟩
    · refine ⟨.c84 t, List.mem_append_right _ (List.mem_map_of_mem ht), ?_⟩
      simp only [cutsOf, List.mem_map, List.mem_filter, decide_eq_true_eq]
      exact ⟨n, ⟨h1, h2⟩, h3.symm⟩
theorem p_stand (m : Model) (trait : Nat) (s : Span) (hm : modelOk m = true) (ht : (trait : Int) < m.traits) (hs : s.lo ≤ s.hi) : P.score_works_stand (Works.mk m (partsOf m)) (trait : Int) s = some (stepsS m trait s) ∧ (stepsS m trait s).length ≤ 1000000 := by
  obtain ⟨hm1, hm2, hm3, hm4, hm5, hm6, hm7⟩ := modelOk_iff.1 hm
  have hfit := fit_parts m trait hm ht
  have hpl : (partsOf m).length ≤ 12 := by rw [partsOf_len]; omega
  have hcl := cuts_len (partsOf m) hfit
  have hdel : ∀ y, y ∈ (s.lo :: (partsOf m).flatMap (cutsOf trait)) → P.score_unique_int_in1 y (fun x0_ => P.score_works_stand_in1 x0_ (Span.mk s.lo s.hi)) = some (!(decide (s.lo ≤ y) && decide (y ≤ s.hi))) := fun y _ => by
    unfold P.score_unique_int_in1 P.score_works_stand_in1
    show Option.bind (Option.bind (cond (decide (s.lo ≤ y)) (some (decide (y ≤ s.hi))) (some false)) fun x2 => some x2) (fun z1 => some (!z1)) = _
    by_cases h : s.lo ≤ y
    · rw [decide_eq_true h, condT, bindS, bindS, Bool.true_and]
    · rw [decide_eq_false h, condF, bindS, bindS, Bool.false_and]
  have hfl := List.length_filter_le (fun n => decide (s.lo ≤ n) && decide (n ≤ s.hi)) (s.lo :: (partsOf m).flatMap (cutsOf trait))
  simp only [List.length_cons] at hfl
  have hgood := stand_good s (CutOf m trait) (s.lo :: (partsOf m).flatMap (cutsOf trait)) hs (fun x => by rw [List.mem_cons, cuts_mem]) _ rfl
  have heq := good_one hgood (stepsS_good m trait s)
  have hsl : (((s.lo :: (partsOf m).flatMap (cutsOf trait)).filter fun n => decide (s.lo ≤ n) && decide (n ≤ s.hi)).mergeSort fun a b => decide (a ≤ b)).length ≤ 1000000 := by rw [List.length_mergeSort]; omega
  have hsort : P.slices_Sort_67 ((s.lo :: (partsOf m).flatMap (cutsOf trait)).filter fun n => decide (s.lo ≤ n) && decide (n ≤ s.hi)) = some (((s.lo :: (partsOf m).flatMap (cutsOf trait)).filter fun n => decide (s.lo ≤ n) && decide (n ≤ s.hi)).mergeSort fun a b => decide (a ≤ b)) := by
    unfold P.slices_Sort_67
    rw [if_pos (by omega)]
  refine ⟨?_, ?_⟩
  · unfold P.score_works_stand
    rw [show (Works.mk m (partsOf m)).parts = partsOf m from rfl]
    rw [p_cuts (partsOf m) trait s hfit hpl, bindS]
    unfold P.score_unique_43 P.slices_Values_42
    rw [p_delete _ _ (fun y => !(decide (s.lo ≤ y) && decide (y ≤ s.hi))) hdel (by simp only [List.length_cons]; omega), bindS]
    simp only [Bool.not_not]
    rw [hsort, bindS, p_compactD _ hsl, bindS, bindS, bindS, heq]
  · have h1 := cards_len trait s m.cards [s.lo] m.traits fun c hc => by
      obtain ⟨j, hj⟩ := List.getElem?_of_mem hc
      exact hm6 j c hj
    have h2 := trees_len trait s m.trees (m.cards.foldl (cardF trait s) [s.lo]) m.traits fun c hc => by
      obtain ⟨j, hj⟩ := List.getElem?_of_mem hc
      exact hm7 j c hj
    unfold stepsS
    simp only [List.length_singleton] at h1
    omega
theorem steps_in {m : Model} {t : Nat} {s : Span} {v : Int} (hs : okSpan s = true) (hv : v ∈ stepsS m t s) : 0 ≤ v ∧ v ≤ 1000000 := by
  have h1 := of_decide_eq_true hs
  rcases (stepsS_good m t s).2 v |>.1 hv with h | ⟨_, h2, h3⟩ <;> omega
theorem values_in {m : Model} {n : Nat} (h : (n : Int) = m.traits) : ∀ x, valuesOk m x = true → x.length = n ∧ ∀ v ∈ x, InK .i64 v := by
  intro x hx
  obtain ⟨h1, h2⟩ := valuesOk_iff.1 hx
  refine ⟨by omega, fun v hv => ?_⟩
  obtain ⟨j, hj⟩ := List.getElem?_of_mem hv
  have := h2 j v hj
  rw [InK.i64]; omega
end S
end Go.Proofs.YtecmlmngcnionaaGreat
namespace Go.Proofs.YtecmlmngcnionaaGreat
open Go Go.Sx Go.RowKit
/-- The state: the values that are told, in a slice of one's own that lies in a variable. -/
def HV (bv : Nat) (s : List Int) (fp : List Nat) (w : World) : Prop := ∃ u, fp = bv :: ob u ∧ Row 26 w bv [u] ∧ Sx.Own (intE .i64) 3 0 [] w u s ∧ bv ∉ ob u
def picksOf (l y : List Int) : List Int := l.map fun i => (y[i.toNat]?).getD 0
theorem heldV (bv : Nat) : Held (HV bv) := by
  refine ⟨?_, ?_⟩
  · rintro s fp w ⟨u, rfl, h1, h2, _⟩ b hb
    rcases List.mem_cons.1 hb with rfl | hb
    · exact ⟨_, _, _, h1⟩
    · exact h2.isCells b hb
  · rintro s fp w w' ⟨u, rfl, h1, h2, h3⟩ hb
    exact ⟨u, rfl, (hb bv (List.mem_cons_self ..)).trans h1, h2.int fun b h => hb b (List.mem_cons_of_mem _ h), h3⟩
set_option maxRecDepth 100000 in
set_option maxHeartbeats 8000000 in
theorem reasons1 {M : List Nat} {w1 : World} {wk : Works} {v1 v2 v4 vl : Value} {bw bY bl bv n : Nat} {D : List Int → Prop} {sc : List Int → Int} {en : List Int → Bool} {yes : Bool} {l : List Int} (f0 : InK IntKind.i64 wk.model.traits) (f1 : RdS CardE M w1 v1 wk.model.cards) (f2 : RdS TreeE M w1 v2 wk.model.trees) (f3 : InK IntKind.i64 wk.model.need) (f4 : RdS I70E M w1 v4 wk.parts)
    (c1 : RdC M w1 bw 0 [.int .i64 wk.model.traits, v1, v2, .int .i64 wk.model.need, v4]) (c2 : RdC M w1 bY 0 [.bool yes]) (c3 : RdC M w1 bl 0 [vl]) (fl : RdS (intE .i64) M w1 vl l) (hl : ∀ i ∈ l, 0 ≤ i ∧ i < (n : Int)) (hll : l.length ≤ 1000000)
    (hD : ∀ y, D y → y.length = n ∧ ∀ v ∈ y, InK .i64 v) (hsc : ∀ y, D y → P.score_works_score wk y = some (sc y) ∧ InK .i64 (sc y)) (hen : ∀ y, D y → P.score_works_enough wk (sc y) = some (en y)) :
    ClH Tryz.prog (.func (.func 15) #[] [Value.pointer (some ⟨bw, 0, none⟩), .pointer (some ⟨bY, 0, none⟩), .pointer (some ⟨bl, 0, none⟩), .pointer (some ⟨bv, 0, none⟩)].toArray) D (fun s => s = []) (fun s y => if (en y == yes) = true then (false, s) else (true, s ++ picksOf l y)) (HV bv) M w1 := by
  refine ⟨?_⟩
  rintro w fp s y v hk hfp ⟨u, rfl, hrv, hou, hnv⟩ rfl hx hd
  have adv : Adv M (bv :: ob u) w1 w := ⟨hk, hfp⟩
  have hM : MLt (bv :: ob u) w := fun b hb => by
    rcases List.mem_cons.1 hb with rfl | hb
    · exact hrv.rd.lt
    · obtain ⟨_, _, _, h2⟩ := hou.isCells b hb; exact heap_lt h2
  obtain ⟨hyl, hyi⟩ := hD y hd
  obtain ⟨hsc1, hsc2⟩ := hsc y hd
  refine CallsV.ofL Tryz.call15 rfl ?_
  refine calls_cw Tryz.func15 rfl Tryz.ntmps15 rfl ?_
  refine cw_seq ?_
  refine cw_regF ?_
  refine s_as rfl rfl ?_
  refine Reg.nil ?_
  refine cw_seq ?_
  refine cw_seq ?_
  refine cw_regT fol (by kernel_rfl) ?_
  refine s_lda rfl (c1.adv adv).cells Tryz.isAgg48 rfl Tryz.sizeOf48 rfl ?_
  refine s_lda rfl (c1.adv adv).cells Tryz.isAgg48 rfl Tryz.sizeOf48 rfl ?_
  refine s_mv rfl rfl ?_
  refine s_callq rfl rfl Tryz.call12 rfl (fun w9 e9 => (C_score_works_score (hM.ext e9) f0 (f1.adv (adv.trans (Adv.of_ext e9))) (f2.adv (adv.trans (Adv.of_ext e9))) f3 (f4.adv (adv.trans (Adv.of_ext e9))) (hx.adv (Adv.of_ext e9)) hsc1).mono (fun _ _ hq => ⟨hq.1, hq.2.2⟩)) ?_
  refine s_callq rfl rfl Tryz.call11 rfl (fun w9 e9 => (C_score_works_enough (hM.ext e9) f0 (f1.adv (adv.trans (Adv.of_ext e9))) (f2.adv (adv.trans (Adv.of_ext e9))) f3 (f4.adv (adv.trans (Adv.of_ext e9))) hsc2 (hen y hd)).mono (fun _ _ hq => ⟨hq.1, hq.2⟩)) ?_
  refine s_ld rfl ((c2.adv adv).cells.at 0 rfl) Tryz.isAgg4 rfl ?_
  refine s_eqB rfl rfl rfl Tryz.underlying4 ?_
  refine Reg.nilq (fun w2 ex2 => ?_)
  have hrv2 := hrv.kp ex2 (by simp)
  have hou2 : Sx.Own (intE .i64) 3 0 [] w2 u [] := hou.int fun b hb => ex2.block b (by obtain ⟨_, _, _, h2⟩ := hou.isCells b hb; exact heap_lt h2) (by simp)
  refine cw_cond rfl (fun hc => ?_) (fun hc => ?_)
  · refine cw_seq ?_
    refine cw_regF ?_
    refine s_as rfl rfl ?_
    refine Reg.nil ?_
    refine cw_ret ?_
    refine fin1 Tryz.results15 rfl ?_
    rw [if_pos hc]
    exact ⟨rfl, Ext.kp ex2, bv :: ob u, ⟨u, rfl, hrv2, hou2, hnv⟩, fun c hc => .inl hc⟩
  · have hc' : ¬ (en y == yes) = true := by rw [hc]; simp
    refine cw_skip ?_
    refine cw_seq ?_
    refine cw_seq ?_
    refine cw_regF ?_
    refine s_ld rfl ((c3.adv (adv.trans (Adv.of_ext ex2))).cells.at 0 rfl) Tryz.isAgg26 rfl ?_
    refine s_len rfl (fl.adv (adv.trans (Adv.of_ext ex2))) Tryz.underlying26 rfl ?_
    refine s_mv rfl rfl ?_
    refine Reg.nil ?_
    refine cw_block ?_
    refine cw_loop (fun i : Nat => [(18, .int .i64 (i : Int)), (17, .int .i64 (l.length : Int)), (16, vl), (4, .pointer (some ⟨bv, 0, none⟩)), (0, v)])
      (fun i W => i ≤ l.length ∧ ∃ u', Row 26 W bv [u'] ∧ Sx.Own (intE .i64) 3 0 [] W u' (picksOf (l.take i) y) ∧ bv ∉ ob u' ∧ (∀ c ∈ ob u', c ∈ ob u ∨ w.heap.size ≤ c) ∧ Kp (bv :: ob u) w W)
      (fun i => l.length - i) 0 ⟨Nat.zero_le _, u, hrv2, hou2, hnv, fun c hc => .inl hc, Ext.kp ex2⟩ (Sub.cons rfl (Sub.cons rfl (Sub.cons rfl (Sub.cons rfl (Sub.cons rfl (Sub.nil _)))))) ?_
    rintro i W ⟨hi, u', hrW, hoW, hnW, hgW, hkW⟩
    have advW : Adv (bv :: ob u) (bv :: ob u') w W := ⟨hkW, fun b hb => by
      rcases List.mem_cons.1 hb with rfl | hb
      · exact .inl (List.mem_cons_self ..)
      · exact (hgW b hb).imp (List.mem_cons_of_mem _) id⟩
    have hMW : MLt (bv :: ob u') W := fun b hb => by
      rcases List.mem_cons.1 hb with rfl | hb
      · exact hrW.rd.lt
      · obtain ⟨_, _, _, h2⟩ := hoW.isCells b hb; exact heap_lt h2
    refine cw_seq ?_
    refine cw_regF ?_
    refine s_lss rfl rfl rfl ?_
    refine Reg.nil ?_
    refine cw_seq ?_
    refine cw_cond rfl (fun hc3 => ?_) (fun hc3 => ?_)
    · have hlt : i < l.length := by have := of_decide_eq_true hc3; omega
      have hy : l[i]? = some l[i] := List.getElem?_eq_getElem hlt
      have hb := hl l[i] (List.getElem_mem hlt)
      have hz : y[l[i].toNat]? = some y[l[i].toNat] := List.getElem?_eq_getElem (by omega)
      refine cw_skip ?_
      refine cw_seq ?_
      refine cw_block ?_
      refine cw_seq ?_
      refine cw_regF ?_
      refine p_ia rfl rfl (fl.adv (adv.trans advW)) (ixo_at hy) Tryz.underlying26 Tryz.sizeOf3 rfl (fun gb go cs hR hC => ?_)
      obtain ⟨rfl, hli⟩ := intE_R.1 hR
      refine s_ld rfl (hC.cells.at 0 rfl) Tryz.isAgg3 rfl ?_
      refine s_as rfl rfl ?_
      refine Reg.nil ?_
      refine cw_regSea [0, 1, 2, 3, 4] [5, 6, 7] [] [6, 7] [[6, 0], [6, 5, 4, 3], [7, 0], [7, 6, 5, 4, 3]] [] fol (by kernel_rfl) rfl (by kernel_rfl) rfl rfl ?_
      refine s_ld rfl (hrW.rd.cells.at 0 rfl) Tryz.isAgg26 rfl ?_
      refine s_mv rfl rfl ?_
      refine s_mv rfl rfl ?_
      refine p_ia rfl rfl (hx.adv advW) (ixo_some hb.1 hz) Tryz.underlying26 Tryz.sizeOf3 rfl (fun gb2 go2 cs2 hR2 hC2 => ?_)
      obtain ⟨rfl, hzi⟩ := intE_R.1 hR2
      refine s_ld rfl (hC2.cells.at 0 rfl) Tryz.isAgg3 rfl ?_
      refine Reg.nilX ⟨rfl, rfl, rfl, ?_⟩
      intro w5 ex5
      have hS := (Hp.start (Mu := []) hMW).ext ex5
      refine SeaWalk.step [5] (by kernel_rfl) (AllL.cons ?_ AllL.nil)
      refine ⟨_, [], rfl, RSub.nil, rfl, nodupB_spec rfl, ?_⟩
      simp only [relOut]
      refine y_bs (E := (intE .i64)) (xs := [y[l[i].toNat]]) sl26 hS rfl rfl (Cls.cons rfl Cls.nil) (Chs.cons ⟨rfl, hzi⟩ Chs.nil) rfl rfl (fun v6 w6 hI6 a6 => ?_)
      refine Reg.nil ⟨rfl, .inr hI6.kp, rfl, ?_⟩
      intro w7 ex7
      have e57 : Ext W w7 := hI6.kp.trans ex7
      have hr7 := hrW.kp e57 (by simp)
      have ho7 : Sx.Own (intE .i64) 3 0 [] w7 u' (picksOf (l.take i) y) := hoW.int fun b hb => e57.block b (hMW b (List.mem_cons_of_mem _ hb)) (by simp)
      have hx7 : RdS (intE .i64) (ob u' ++ []) w7 v6 [y[l[i].toNat]] := ((hI6.freeze 0 rfl).adv (Adv.of_ext ex7)).adv (Adv.drop fun b hb => mem_mm.2 (.inr (List.mem_cons_of_mem _ (by simpa using hb))))
      refine SeaWalk.step [6] (by kernel_rfl) (AllL.cons ?_ AllL.nil)
      refine ⟨_, [], rfl, RSub.nil, rfl, nodupB_spec rfl, ?_⟩
      simp only [relOut]
      have hpl : (picksOf (l.take i) y).length ≤ 1000000 := by unfold picksOf; rw [List.length_map, List.length_take]; omega
      refine s_app sl26 rfl rfl ho7 hx7 (Nat.zero_le _) ⟨by simp only [List.length_singleton]; omega, by simp only [List.length_singleton]; omega⟩ rfl (fun v8 w8 ho8 hk8 a8 hn8 => ?_)
      refine Reg.nil ⟨rfl, .inl rfl, rfl, ?_⟩
      intro w9 ex9
      have hr9 := (hr7.kp hk8 hnW).kp ex9 (by simp)
      have ho9 : Sx.Own (intE .i64) 3 0 [] w9 v8 (picksOf (l.take i) y ++ [y[l[i].toNat]]) := ho8.int fun b hb => ex9.block b (by obtain ⟨_, _, _, h2⟩ := ho8.isCells b hb; exact heap_lt h2) (by simp)
      have hn9 : bv ∉ ob v8 := fun hb => (hn8 bv hb).elim hnW fun h => by have := hr7.rd.lt; omega
      refine SeaWalk.step [7] (by kernel_rfl) (AllL.cons ?_ AllL.nil)
      refine ⟨_, [], rfl, RSub.nil, rfl, nodupB_spec rfl, ?_⟩
      simp only [relOut]
      refine s_st rfl rfl (Own.cells1 ho8) hr9 Tryz.sizeOf26 rfl rfl (one1 (Own.oneC ho8) one0) (fun w10 hr10 hk10 => ?_)
      refine Reg.nil ⟨rfl, .inl rfl, rfl, ?_⟩
      intro w11 ex11
      refine SeaWalk.done ?_
      refine cw_regF ?_
      refine p_add rfl rfl rfl (n := ((i + 1 : Nat) : Int)) ⟨by omega, by rw [InK.i64]; omega⟩ ?_
      refine s_mv rfl rfl ?_
      have hr11 : Row 26 w11 bv [v8] := (show Row 26 w10 bv [v8] from hr10).kp ex11 (by simp)
      have hk911 : Kp [bv] w9 w11 := hk10.trans (Ext.kp ex11)
      have ho11 : Sx.Own (intE .i64) 3 0 [] w11 v8 (picksOf (l.take (i + 1)) y) := by
        have e : picksOf (l.take (i + 1)) y = picksOf (l.take i) y ++ [y[l[i].toNat]] := by
          unfold picksOf
          rw [List.take_add_one, hy, Option.toList_some, List.map_append]
          congr 1
          rw [List.map_singleton, hz]; rfl
        rw [e]
        exact ho9.int fun b hb => hk911.block b (by obtain ⟨_, _, _, h2⟩ := ho9.isCells b hb; exact heap_lt h2) fun h => by
          have : b = bv := by simpa using h
          subst this; exact hn9 hb
      have hg8 : ∀ c ∈ ob v8, c ∈ ob u ∨ w.heap.size ≤ c := fun c hc => by
        rcases hn8 c hc with h | h
        · exact hgW c h
        · exact .inr (Nat.le_trans (Nat.le_trans hkW.size e57.size) h)
      refine Reg.nil ⟨rfl, i + 1, ⟨hlt, v8, hr11, ho11, hn9, hg8, ?_⟩, Sub.cons rfl (Sub.cons rfl (Sub.cons rfl (Sub.cons rfl (Sub.cons rfl (Sub.nil _))))), by omega⟩
      refine (((hkW.trans (Ext.kp e57)).tail hk8 fun c hc => ?_).trans (Ext.kp ex9)).trans (hk911.mono fun c hc => .inl ?_)
      · exact (hgW c hc).imp (List.mem_cons_of_mem _) id
      · have : c = bv := by simpa using hc
        subst this; exact List.mem_cons_self ..
    · have hie : i = l.length := by have := of_decide_eq_false hc3; omega
      subst hie
      refine cw_exit ?_
      refine exB_same ?_
      refine cw_seq ?_
      refine cw_regF ?_
      refine s_as rfl rfl ?_
      refine Reg.nil ?_
      refine cw_ret ?_
      refine fin1 Tryz.results15 rfl ?_
      rw [if_neg hc']
      refine ⟨rfl, hkW, bv :: ob u', ⟨u', rfl, hrW, by rw [List.take_length] at hoW; exact hoW, hnW⟩, fun c hc => ?_⟩
      rcases List.mem_cons.1 hc with rfl | hc
      · exact .inl (List.mem_cons_self ..)
      · exact (hgW c hc).imp (List.mem_cons_of_mem _) id
end Go.Proofs.YtecmlmngcnionaaGreat
namespace Go.Sx
open Go Go.RowKit
/-- A variable with a slice of numbers of one's own: as one thing. -/
def valR (bv : Nat) (u : Value) (s : List Int) : Res where
  fp := bv :: ob u
  mu := []
  holds := fun _ w => Row 26 w bv [u] ∧ Own (intE .i64) 3 0 [] w u s ∧ bv ∉ ob u
  adv := fun _ hb h => ⟨(hb bv (List.mem_cons_self ..)).trans h.1, h.2.1.int fun b hb' => hb b (List.mem_cons_of_mem _ hb'), h.2.2⟩
  lt := fun h b hb => by
    rcases List.mem_cons.1 hb with rfl | hb
    · exact h.1.rd.lt
    · obtain ⟨_, _, _, h2⟩ := h.2.1.isCells b hb; exact heap_lt h2
theorem mget_mput {α : Type} : ∀ (l : List (Int × α)) (k k' : Int) (z : α), mget (mput l k z) k' = if k = k' then some z else mget l k'
  | [], k, k', z => by simp [mput, mget]
  | (a, y) :: r, k, k', z => by
    unfold mput
    by_cases h : a = k
    · subst h
      rw [if_pos rfl]
      simp only [mget]
      split
      · rfl
      · rfl
    · rw [if_neg h]
      simp only [mget]
      rw [mget_mput r k k' z]
      by_cases h1 : a = k'
      · rw [if_pos h1, if_neg (fun e => h (by omega)), if_pos h1]
      · rw [if_neg h1, if_neg h1]
section
variable {P : Program} {N : Nat} {ds : List Deferred} {L : Env} {w : World} {A B : Out} {X : Nat → Out} {Z : List PanicEntry → Out}
theorem cw_scope {c : Code} (h : CW P N c ds L w A B X Z) : CW P N (.scope c) ds L w A B X Z := fun a ha => wp_scope_straight (wp_mono (h a ha) fun e a' w' hq => by
  cases e <;> exact hq)
theorem cw_label {l : Nat} (h : A ds L w) : CW P N (.label l) ds L w A B X Z := fun a ha => wp_label ⟨ds, L, ha, h⟩
end
section
variable {P : Program} {N : Nat} {ops : Array Oper} {q : Md} {rest : List Oper} {ds : List Deferred} {L : Env} {w : World} {A B : Out} {X : Nat → Out} {Z : List PanicEntry → Out} {d : Nat} {ty : TypeId} {pos : String} {af : Array Edge}
/-- A slice that is nil, against nil. -/
theorem s_eqNil {t t' e : TypeId} {x y : Operand} (hx : ev L x = some (.slice none 0 0)) (hy : ev L y = some (.slice none 0 0)) (ht : P.underlying t = some (.slice e)) (hN : Nat.blt d N = true)
    (h : Reg P N ops q rest ds ((d, .bool true) :: L) w A B X Z) : Reg P N ops q (⟨some d, .binOp .eql t x y t', ty, pos, af, none⟩ :: rest) ds L w A B X Z := by
  refine Reg.val (.bool true) rfl rfl hN (fun a' ha w' _ => ?_) h
  have he : (Op.equal t (.slice none 0 0) (.slice none 0 0)).run P w' = .ok true w' := by
    have key : ∀ n, (Op.equalIn (n + 1) t (.slice none 0 0) (.slice none 0 0)).run P w' = .ok true w' := fun n => by simp [Op.equalIn, run_underlying ht]
    exact key 9999
  have hg : eqGuard .eql t x y (.slice none 0 0) (.slice none 0 0) = pure () := by rfl
  simp [execOp, ha.eval hx, ha.eval hy, hg, binOp, he]
/-- A slice that holds something, against nil. -/
theorem s_eqFull {α : Type} {E : Enc α} {M : List Nat} {w0 : World} {xs : List α} {t t' e : TypeId} {x y : Operand} {v : Value} (hv : RdS E M w0 v xs) (hne : xs ≠ []) (hx : ev L x = some v) (hy : ev L y = some (.slice none 0 0)) (ht : P.underlying t = some (.slice e)) (hN : Nat.blt d N = true)
    (h : Reg P N ops q rest ds ((d, .bool false) :: L) w A B X Z) : Reg P N ops q (⟨some d, .binOp .eql t x y t', ty, pos, af, none⟩ :: rest) ds L w A B X Z := by
  obtain ⟨a, c, rfl, _, _, h3⟩ := hv
  obtain ⟨b, o, rfl, _⟩ := h3.resolve_left hne
  refine Reg.val (.bool false) rfl rfl hN (fun a' ha w' _ => ?_) h
  have he : (Op.equal t (.slice (some ⟨b, o, none⟩) xs.length c) (.slice none 0 0)).run P w' = .ok false w' := by
    have key : ∀ n, (Op.equalIn (n + 1) t (.slice (some ⟨b, o, none⟩) xs.length c) (.slice none 0 0)).run P w' = .ok false w' := fun n => by simp [Op.equalIn, run_underlying ht]
    exact key 9999
  have hg : eqGuard .eql t x y (.slice (some ⟨b, o, none⟩) xs.length c) (.slice none 0 0) = pure () := by rfl
  simp [execOp, ha.eval hx, ha.eval hy, hg, binOp, he]
end
end Go.Sx
namespace Go.Proofs.YtecmlmngcnionaaGreat
open Go Go.Sx
namespace S
def whole : Span := Span.mk 0 1000000
def listsR (m : Model) (l : List Int) (t : Nat) : Option (List Int) := if (t : Int) ∈ l then some (stepsS m t whole) else none
def enB (m : Model) (n : Int) : Bool := decide (m.need * 1000 ≤ n)
def soR (m : Model) (yes : Bool) (l : List Int) (s y : List Int) : Bool × List Int := if (enB m (score m y) == yes) = true then (false, s) else (true, s ++ picksOf l y)
def tryR (m : Model) (x : List Int) (l : List Int) : Bool × List Int := onS (soR m (enB m (score m x)) l) (listsR m l) x.length 0 x []
/-- The sets of traits, as lists. -/
def bitB (b j : Nat) : Bool := decide (andI .i64 ((b : Int).fdiv (2 ^ min j 64)) 1 = 1)
def setOf (n b : Nat) : List Int := ((List.range n).filter (bitB b)).map fun (j : Nat) => (j : Int)
def setsAll (n : Nat) : List (List Int) := ((List.range (2 ^ n)).map (setOf n)).filter fun l => decide (0 < l.length)
def setsS (n : Nat) : List (List Int) := (setsAll n).mergeSort fun a b => decide (setc a b ≤ 0)
def reasonsS (m : Model) (x : List Int) : List Int × List Int × Int :=
  if err m x = 0 then (match (setsS x.length).find? (fun l => (tryR m x l).1) with | some l => (l, (tryR m x l).2, 0) | none => ([], [], 6)) else ([], [], err m x)
/-- The map of the spans of a set. -/
def spansOf (l : List Int) (i : Nat) : List (Int × Span) := (l.take i).foldl (fun a k => mput a k whole) []
theorem mget_fold (k' : Int) : ∀ (l : List Int) (a : List (Int × Span)), mget (l.foldl (fun a k => mput a k whole) a) k' = if k' ∈ l then some whole else mget a k'
  | [], a => by simp
  | k :: l, a => by
    rw [List.foldl_cons, mget_fold k' l, mget_mput]
    by_cases h1 : k' ∈ l
    · rw [if_pos h1, if_pos (List.mem_cons_of_mem _ h1)]
    · rw [if_neg h1]
      by_cases h2 : k = k'
      · subst h2; rw [if_pos rfl, if_pos (List.mem_cons_self ..)]
      · rw [if_neg h2, if_neg (fun h => (List.mem_cons.1 h).elim (fun e => h2 e.symm) h1)]
theorem spansOf_succ {l : List Int} {i : Nat} {k : Int} (h : l[i]? = some k) : mput (spansOf l i) k whole = spansOf l (i + 1) := by
  unfold spansOf
  rw [List.take_add_one, h, Option.toList_some, List.foldl_append]; rfl
theorem mem_setOf {n b : Nat} {i : Int} (h : i ∈ setOf n b) : 0 ≤ i ∧ i < (n : Int) := by
  obtain ⟨j, hj, rfl⟩ := List.mem_map.1 h
  have := List.mem_range.1 (List.mem_filter.1 hj).1
  omega
theorem setOf_len {n b : Nat} : (setOf n b).length ≤ n := by
  unfold setOf
  rw [List.length_map]
  have := List.length_filter_le (bitB b) (List.range n)
  rw [List.length_range] at this; exact this
theorem setsS_mem {n : Nat} {l : List Int} (h : l ∈ setsS n) : (∀ i ∈ l, 0 ≤ i ∧ i < (n : Int)) ∧ l.length ≤ n ∧ l ≠ [] := by
  unfold setsS at h
  rw [List.mem_mergeSort] at h
  unfold setsAll at h
  obtain ⟨h1, h2⟩ := List.mem_filter.1 h
  obtain ⟨b, _, rfl⟩ := List.mem_map.1 h1
  refine ⟨fun i hi => mem_setOf hi, setOf_len, fun e => ?_⟩
  rw [e] at h2; simp at h2
theorem setsS_len {n : Nat} (hn : n ≤ 5) : (setsS n).length ≤ 32 := by
  unfold setsS setsAll
  rw [List.length_mergeSort]
  refine Nat.le_trans (List.length_filter_le _ _) ?_
  rw [List.length_map, List.length_range]
  exact Nat.pow_le_pow_right (by omega) hn
theorem listsR_set {m : Model} {l : List Int} : ∀ (t : Nat) (ls : List Int) (v : Int) (y : List Int), listsR m l t = some ls → v ∈ ls → valuesOk m y = true → valuesOk m (y.set t v) = true := by
  intro t ls v y hl hv hy
  obtain ⟨h1, h2⟩ := valuesOk_iff.1 hy
  unfold listsR at hl
  split at hl
  · cases hl
    have h3 := steps_in (s := whole) (by decide) hv
    refine valuesOk_iff.2 ⟨by rw [List.length_set]; exact h1, fun j z hz => ?_⟩
    rw [List.getElem?_set] at hz
    split at hz
    · split at hz
      · cases hz; omega
      · cases hz
    · exact h2 j z hz
  · cases hl
theorem listsR_ok {m : Model} {l : List Int} {n : Nat} (hm : modelOk m = true) (hl : (n : Int) = m.traits) : ∀ t, t < n → match listsR m l t with
    | none => mget (spansOf l l.length) (t : Int) = none
    | some ls => ∃ sp, mget (spansOf l l.length) (t : Int) = some sp ∧ P.score_works_stand (Works.mk m (partsOf m)) (t : Int) sp = some ls ∧ ls.length ≤ 1000000 := by
  intro t ht
  have hg : mget (spansOf l l.length) (t : Int) = if (t : Int) ∈ l then some whole else none := by
    unfold spansOf
    rw [List.take_length, mget_fold]; rfl
  unfold listsR
  by_cases h : (t : Int) ∈ l
  · rw [if_pos h]
    obtain ⟨h2, h3⟩ := p_stand m t whole hm (by omega) (by decide)
    exact ⟨whole, by rw [hg, if_pos h], h2, h3⟩
  · rw [if_neg h]
    simp only
    rw [hg, if_neg h]
end S
end Go.Proofs.YtecmlmngcnionaaGreat
namespace Go.Proofs.YtecmlmngcnionaaGreat
open Go Go.Sx
namespace S
theorem p_set (n b : Nat) (hn : n ≤ 5) (hb : b < 64) : loopM (S := (List Int) × Int) (R := ((List Int))) (fun (x5, x6) => cond (decide (x6 < (n : Int))) (Option.bind (Option.bind (shrO (b : Int) x6 IntKind.i64.bits) fun n8 => Option.bind (cond (decide (andI .i64 n8 1 = 1)) (Option.bind (appo 8 x5 ([x6] : List Int)) fun l16 => some l16) (some x5)) fun x21 => some x21) fun x22 => Option.bind (chk .i64 (x6 + 1)) fun n23 => some (.inl (x22, n23))) (some (.inr x5))) ([], 0) = some (setOf n b) := by
  have hF : ∀ i, (((List.range i).filter (bitB b)).map fun (j : Nat) => (j : Int)).length ≤ i := fun i => setOf_len (n := i)
  have := loop_fold n (fun i => ((List.range i).filter (bitB b)).map fun (j : Nat) => (j : Int)) (setOf n b) (body := (fun (x5, x6) => cond (decide (x6 < (n : Int))) (Option.bind (Option.bind (shrO (b : Int) x6 IntKind.i64.bits) fun n8 => Option.bind (cond (decide (andI .i64 n8 1 = 1)) (Option.bind (appo 8 x5 ([x6] : List Int)) fun l16 => some l16) (some x5)) fun x21 => some x21) fun x22 => Option.bind (chk .i64 (x6 + 1)) fun n23 => some (.inl (x22, n23))) (some (.inr x5))))
    (fun i hi => by
      have h3 := hF i
      have hs : shrO (b : Int) (i : Int) IntKind.i64.bits = some ((b : Int).fdiv (2 ^ min i 64)) := by
        unfold shrO
        rw [if_pos (by omega), Int.toNat_natCast]; rfl
      have hT : bitB b i = true → (((List.range (i + 1)).filter (bitB b)).map fun (j : Nat) => (j : Int)) = (((List.range i).filter (bitB b)).map fun (j : Nat) => (j : Int)) ++ [(i : Int)] := fun h => by
        rw [List.range_succ, List.filter_append, List.map_append, List.filter_cons_of_pos h]; rfl
      have hN : ¬ bitB b i = true → (((List.range (i + 1)).filter (bitB b)).map fun (j : Nat) => (j : Int)) = (((List.range i).filter (bitB b)).map fun (j : Nat) => (j : Int)) := fun h => by
        rw [List.range_succ, List.filter_append, List.map_append, List.filter_cons_of_neg h, List.filter_nil, List.map_nil, List.append_nil]
      dsimp only
      rw [lt_cast hi, condT, hs, bindS]
      have hbit : decide (andI .i64 ((b : Int).fdiv (2 ^ min i 64)) 1 = 1) = bitB b i := rfl
      rw [hbit]
      by_cases h : bitB b i = true
      · rw [hT h, h, condT, appo_ok (by simp only [List.length_singleton]; omega) (by simp only [List.length_singleton]; omega), bindS, bindS, bindS, chk_nat (by omega), bindS]
      · have h' : bitB b i = false := by simpa using h
        rw [hN h, h', condF, bindS, bindS, chk_nat (by omega), bindS]) (by dsimp only; rw [not_lt_cast, condF]; rfl)
  simpa using this
theorem setsAll_succ (n k : Nat) : (((List.range (k + 1)).map (setOf n)).filter fun l => decide (0 < l.length)) = (((List.range k).map (setOf n)).filter fun l => decide (0 < l.length)) ++ (if 0 < (setOf n k).length then [setOf n k] else []) := by
  rw [List.range_succ, List.map_append, List.filter_append, List.map_singleton]
  congr 1
  by_cases h : 0 < (setOf n k).length
  · rw [if_pos h, List.filter_cons_of_pos (p := fun l : List Int => decide (0 < l.length)) (decide_eq_true h)]; rfl
  · rw [if_neg h, List.filter_cons_of_neg (p := fun l : List Int => decide (0 < l.length)) (by simpa using h)]; rfl
theorem p_sets (n : Nat) (hn : n ≤ 5) : P.score_sets (n : Int) = some (setsS n) := by
  have h2 : (2 ^ n : Nat) ≤ 32 := Nat.pow_le_pow_right (by omega) hn
  have hsh : shlO .i64 1 (n : Int) = some ((2 ^ n : Nat) : Int) := by
    have : n = 0 ∨ n = 1 ∨ n = 2 ∨ n = 3 ∨ n = 4 ∨ n = 5 := by omega
    rcases this with rfl | rfl | rfl | rfl | rfl | rfl <;> rfl
  unfold P.score_sets
  rw [hsh, bindS]
  have hF : ∀ i, (((List.range i).map (setOf n)).filter fun l => decide (0 < l.length)).length ≤ i := fun i => by
    have := List.length_filter_le (fun l : List Int => decide (0 < l.length)) ((List.range i).map (setOf n))
    rw [List.length_map, List.length_range] at this; exact this
  have := loop_fold (2 ^ n) (fun i => ((List.range i).map (setOf n)).filter fun l => decide (0 < l.length)) (setsAll n) (body := (fun (x2, x3) => cond (decide (x3 < ((2 ^ n : Nat) : Int))) (Option.bind (Option.bind (loopM (S := (List Int) × Int) (R := ((List Int))) (fun (x5, x6) => cond (decide (x6 < (n : Int))) (Option.bind (Option.bind (shrO x3 x6 IntKind.i64.bits) fun n8 => Option.bind (cond (decide (andI .i64 n8 1 = 1)) (Option.bind (appo 8 x5 ([x6] : List Int)) fun l16 => some l16) (some x5)) fun x21 => some x21) fun x22 => Option.bind (chk .i64 (x6 + 1)) fun n23 => some (.inl (x22, n23))) (some (.inr x5))) ([], 0)) fun x24 => Option.bind (cond (decide (0 < (x24.length : Int))) (Option.bind (appo 24 x2 ([x24] : List (List Int))) fun l34 => some l34) (some x2)) fun x39 => some x39) fun x40 => Option.bind (chk .i64 (x3 + 1)) fun n41 => some (.inl (x40, n41))) (some (.inr x2))))
    (fun i hi => by
      have h3 := hF i
      have hin := p_set n i hn (by omega)
      dsimp only
      rw [lt_cast hi, condT, hin, bindS, setsAll_succ]
      by_cases h : 0 < (setOf n i).length
      · have e : decide (0 < ((setOf n i).length : Int)) = true := decide_eq_true (by omega)
        rw [e, condT, if_pos h, appo_ok (by simp only [List.length_singleton]; omega) (by simp only [List.length_singleton]; omega), bindS, bindS, bindS, chk_nat (by omega), bindS]
      · have e : decide (0 < ((setOf n i).length : Int)) = false := decide_eq_false (by omega)
        rw [e, condF, if_neg h, bindS, bindS, chk_nat (by omega), bindS, List.append_nil]) (by dsimp only; rw [not_lt_cast, condF]; rfl)
  have h0 : (((List.range 0).map (setOf n)).filter fun l => decide (0 < l.length)) = [] := rfl
  rw [h0] at this
  rw [this, bindS]
  unfold P.slices_SortFunc_23
  have hl := hF (2 ^ n)
  rw [if_pos (by unfold setsAll; omega), bindS]; rfl
end S
end Go.Proofs.YtecmlmngcnionaaGreat
namespace Go.Proofs.YtecmlmngcnionaaGreat
open Go Go.Sx
namespace S
theorem p_next (a : List Int) (lists : List (List Int)) (hok : okAt a lists) (hl : a.length ≤ 1000000) (hll : ∀ l ∈ lists, l.length ≤ 1000000) : P.ref06_next a lists = some (match nx a lists with | some a' => (true, a') | none => (false, List.replicate a.length 0)) := by
  have hlen := okAt_len hok
  unfold P.ref06_next
  have hc : chk .i64 ((a.length : Int) - 1) = some ((a.length : Int) - 1) := chk_i64 (by omega)
  rw [hc, bindS]
  obtain ⟨r, h1, h2⟩ := loop_inv2 (body := (fun (x2, x3) => cond (decide (0 ≤ x2)) (Option.bind (ixo x3 x2) fun y5 => Option.bind (chk .i64 (y5 + 1)) fun n12 => Option.bind (ixo x3 x2) fun y13 => Option.bind (seto x3 x2 n12) fun l20 => Option.bind (ixo l20 x2) fun y24 => Option.bind (ixo lists x2) fun y31 => cond (decide (y24 < (y31.length : Int))) (some (.inr (.inr (true, l20)))) (Option.bind (ixo l20 x2) fun y43 => Option.bind (seto l20 x2 0) fun l50 => Option.bind (chk .i64 (x2 - 1)) fun n54 => some (.inl (n54, l50)))) (some (.inr (.inl x3)))))
    (fun t : Int × List Int => ∃ k : Nat, t.1 = (k : Int) - 1 ∧ k ≤ a.length ∧ t.2 = atK a k ∧ nx (a.drop k) (lists.drop k) = none) (fun t => (t.1 + 1).toNat)
    (Q := fun r : List Int ⊕ (Bool × List Int) => r = match nx a lists with | some a' => .inr (true, a') | none => .inl (List.replicate a.length 0))
    (fun ⟨i, l⟩ ⟨k, g1, g2, g3, g4⟩ => by
      simp only at g1 g3
      cases k with
      | zero =>
        right
        have e1 : decide (0 ≤ i) = false := decide_eq_false (by omega)
        refine ⟨.inl l, by dsimp only; rw [e1, condF], ?_⟩
        have h0 : nx a lists = none := by simpa using g4
        rw [h0, g3]; simp [atK]
      | succ j =>
        have hi : i = (j : Int) := by omega
        subst hi
        have e1 : decide (0 ≤ (j : Int)) = true := decide_eq_true (by omega)
        have hja : j < a.length := by omega
        have haj : a[j]? = some a[j] := List.getElem?_eq_getElem hja
        have hlj : lists[j]? = some lists[j] := List.getElem?_eq_getElem (by omega)
        have hb := okAt_get hok j _ _ haj hlj
        have hlb := hll lists[j] (List.getElem_mem (by omega))
        have hlenK : l.length = a.length := by rw [g3]; exact atK_len g2
        have hlj2 : l[j]? = some a[j] := by rw [g3]; exact atK_get haj
        have hset : ∀ (l' : List Int) z, l'.length = a.length → seto l' (j : Int) z = some (l'.set j z) := fun l' z h => by unfold seto; rw [if_pos ⟨by omega, by omega⟩, Int.toNat_natCast]
        have hget : (l.set j (a[j] + 1))[j]? = some (a[j] + 1) := List.getElem?_set_self (by omega)
        have hc1 : chk .i64 (a[j] + 1) = some (a[j] + 1) := chk_i64 (by omega)
        have hc2 : chk .i64 ((j : Int) - 1) = some ((j : Int) - 1) := chk_i64 (by omega)
        have hn := nx_cons haj hlj g4
        by_cases e2 : a[j] + 1 < (lists[j].length : Int)
        · right
          rw [if_pos e2] at hn
          have hfull := nx_pre j a lists _ hlen (by omega) hn
          have e3 : decide (a[j] + 1 < (lists[j].length : Int)) = true := decide_eq_true e2
          refine ⟨.inr (true, l.set j (a[j] + 1)), by dsimp only; rw [e1, condT, ixo_at hlj2, bindS, hc1, bindS, bindS, hset l _ hlenK, bindS, ixo_at hget, bindS, ixo_at hlj, bindS, e3, condT], ?_⟩
          rw [hfull, g3, atK_set hja]
        · left
          rw [if_neg e2] at hn
          have e3 : decide (a[j] + 1 < (lists[j].length : Int)) = false := decide_eq_false e2
          refine ⟨((j : Int) - 1, (l.set j (a[j] + 1)).set j 0), by dsimp only; rw [e1, condT, ixo_at hlj2, bindS, hc1, bindS, bindS, hset l _ hlenK, bindS, ixo_at hget, bindS, ixo_at hlj, bindS, e3, condF, bindS, hset _ _ (by rw [List.length_set]; exact hlenK), bindS, hc2, bindS], ⟨j, rfl, by omega, ?_, hn⟩, by simp only; omega⟩
          rw [List.set_set, g3, atK_zero hja]) ((a.length : Int) - 1, a) ⟨a.length, rfl, Nat.le_refl _, (atK_all (Nat.le_refl _)).symm, nx_end (Nat.le_refl _)⟩
  rw [h1, bindS, h2]
  cases nx a lists with
  | none => rw [elimLS]
  | some a' => rw [elimRS]
end S
end Go.Proofs.YtecmlmngcnionaaGreat
namespace Go.Proofs.YtecmlmngcnionaaGreat
open Go Go.Sx
namespace S
section
variable {α : Type} [DecidableEq α] (better : α → α → Bool) (ok : α → Bool)
def bestF (best : Option α) (l : α) : Option α := match best with
  | some b => if better l b = true then (if ok l = true then some l else some b) else some b
  | none => if ok l = true then some l else none
omit [DecidableEq α] in
theorem find_congr {p q : α → Bool} : ∀ {xs : List α}, (∀ a ∈ xs, p a = q a) → xs.find? p = xs.find? q
  | [], _ => rfl
  | x :: xs, h => by
    have ih := find_congr (p := p) (q := q) (xs := xs) fun a ha => h a (List.mem_cons_of_mem _ ha)
    rw [List.find?_cons, List.find?_cons, h x (List.mem_cons_self ..), ih]
theorem bestF_find {B : List α} (hB : B.Pairwise fun a b => better a b = true ∧ better b a = false) (irr : ∀ a, better a a = false) {l : α} (hl : l ∈ B) (q : α → Bool) :
    bestF better ok (B.find? fun a => ok a && q a) l = B.find? fun a => ok a && (q a || decide (a = l)) := by
  obtain ⟨ps, qs, rfl⟩ := List.append_of_mem hl
  obtain ⟨h1, h2, h3⟩ := List.pairwise_append.1 hB
  have h4 := List.pairwise_cons.1 h2
  have hne : ∀ a ∈ ps, a ≠ l := fun a ha e => by
    subst e
    have := (h3 a ha a (List.mem_cons_self ..)).1
    rw [irr] at this; cases this
  have hne' : ∀ a ∈ qs, a ≠ l := fun a ha e => by
    subst e
    have := (h4.1 a ha).1
    rw [irr] at this; cases this
  have c1 : ps.find? (fun a => ok a && (q a || decide (a = l))) = ps.find? (fun a => ok a && q a) := find_congr fun a ha => by simp [hne a ha]
  have c2 : qs.find? (fun a => ok a && (q a || decide (a = l))) = qs.find? (fun a => ok a && q a) := find_congr fun a ha => by simp [hne' a ha]
  rw [List.find?_append, List.find?_append, c1]
  cases hF : ps.find? (fun a => ok a && q a) with
  | some b =>
    have hb := List.mem_of_find?_eq_some hF
    simp only [Option.some_or, bestF, (h3 b hb l (List.mem_cons_self ..)).2, Bool.false_eq_true, if_false]
  | none =>
    simp only [Option.none_or]
    rw [List.find?_cons, List.find?_cons, c2]
    by_cases ho : ok l = true
    · by_cases hq : q l = true
      · simp [ho, hq, bestF, irr]
      · have hq' : q l = false := by simpa using hq
        cases hG : qs.find? (fun a => ok a && q a) with
        | none => simp [ho, hq', bestF]
        | some b =>
          have hb := List.mem_of_find?_eq_some hG
          simp [ho, hq', bestF, (h4.1 b hb).1]
    · have ho' : ok l = false := by simpa using ho
      cases hG : qs.find? (fun a => ok a && q a) with
      | none => simp [ho', bestF]
      | some b => simp [ho', bestF]
theorem best_step {B pre : List α} (hB : B.Pairwise fun a b => better a b = true ∧ better b a = false) (irr : ∀ a, better a a = false) {l : α} (hl : l ∈ B) :
    bestF better ok (B.find? fun a => ok a && decide (a ∈ pre)) l = B.find? fun a => ok a && decide (a ∈ pre ++ [l]) := by
  rw [bestF_find better ok hB irr hl]
  refine find_congr fun a _ => ?_
  congr 1
  by_cases h : a ∈ pre <;> by_cases h2 : a = l <;> simp [h, h2]
end
/-- The values of some traits put into their places. -/
def putAll : List Int → List Nat → List Int → List Int
  | x, t :: ts, v :: vs => putAll (x.set t v) ts vs
  | x, _, _ => x
theorem putAll_len : ∀ (x : List Int) (ts : List Nat) (vs : List Int), (putAll x ts vs).length = x.length
  | x, t :: ts, v :: vs => by rw [putAll, putAll_len, List.length_set]
  | x, [], _ => by cases ‹List Int› <;> rfl
  | x, _ :: _, [] => rfl
theorem find_flat {A B : Type} (g : A → List B) (p : B → Bool) : ∀ (l : List A), (l.flatMap g).find? p = l.findSome? fun a => (g a).find? p
  | [] => rfl
  | a :: l => by
    rw [List.flatMap_cons, List.find?_append, List.findSome?_cons, find_flat g p l]
    cases (g a).find? p <;> rfl
theorem runL_find {T : Type} (f : T → Int → Bool × T) (c : T → Int → Option T) (h : ∀ s v, f s v = match c s v with | none => (false, s) | some r => (true, r)) : ∀ (l : List Int) (s : T), runL f s l = match l.findSome? (c s) with | none => (false, s) | some r => (true, r)
  | [], _ => rfl
  | v :: l, s => by
    unfold runL
    rw [h s v, List.findSome?_cons]
    cases c s v with
    | none => exact runL_find f c h l s
    | some r => rfl
theorem onS_find {T : Type} (p : List Int → Bool) (g : T → List Int → T) (lists : Nat → Option (List Int)) (Ls : Nat → List Int) : ∀ (k t : Nat) (x : List Int) (s : T) (ts : List Nat), ts.Pairwise (· < ·) → (∀ j ∈ ts, t ≤ j ∧ j < t + k) → (∀ j, t ≤ j → j < t + k → lists j = if j ∈ ts then some (Ls j) else none) →
    onS (fun s y => if p y = true then (true, g s y) else (false, s)) lists k t x s = match (prodL (ts.map Ls)).find? fun v => p (putAll x ts v) with | none => (false, s) | some v => (true, g s (putAll x ts v))
  | 0, t, x, s, ts, _, hin, _ => by
    have : ts = [] := List.eq_nil_iff_forall_not_mem.2 fun j hj => by have := hin j hj; omega
    subst this
    simp only [onS, List.map_nil, prodL, List.find?_cons, putAll, List.find?_nil]
    cases p x <;> rfl
  | k + 1, t, x, s, ts, hs, hin, hl => by
    have h0 := hl t (Nat.le_refl _) (by omega)
    unfold onS
    by_cases ht : t ∈ ts
    · rw [if_pos ht] at h0
      rw [h0]
      simp only
      cases ts with
      | nil => cases ht
      | cons a ts =>
        have hp := List.pairwise_cons.1 hs
        have ha : a = t := by
          rcases List.mem_cons.1 ht with h | h
          · exact h.symm
          · have h1 := hp.1 t h
            have h2 := (hin a (List.mem_cons_self ..)).1
            omega
        subst ha
        have ih : ∀ (s : T) (v : Int), onS (fun s y => if p y = true then (true, g s y) else (false, s)) lists k (a + 1) (x.set a v) s = match ((prodL (ts.map Ls)).find? fun w => p (putAll (x.set a v) ts w)).map fun w => g s (putAll (x.set a v) ts w) with | none => (false, s) | some r => (true, r) := fun s v => by
          rw [onS_find p g lists Ls k (a + 1) (x.set a v) s ts hp.2 (fun j hj => ⟨hp.1 j hj, by have := (hin j (List.mem_cons_of_mem _ hj)).2; omega⟩) (fun j h1 h2 => by
            rw [hl j (by omega) (by omega)]
            have : j ≠ a := by omega
            simp [this])]
          cases (prodL (ts.map Ls)).find? fun w => p (putAll (x.set a v) ts w) <;> rfl
        rw [runL_find _ (fun s v => ((prodL (ts.map Ls)).find? fun w => p (putAll (x.set a v) ts w)).map fun w => g s (putAll (x.set a v) ts w)) ih]
        simp only [List.map_cons, prodL]
        rw [find_flat]
        have key : ∀ (l : List Int), (l.findSome? fun v => ((prodL (ts.map Ls)).find? fun w => p (putAll (x.set a v) ts w)).map fun w => g s (putAll (x.set a v) ts w)) = (l.findSome? fun v => ((prodL (ts.map Ls)).map (v :: ·)).find? fun v => p (putAll x (a :: ts) v)).map fun v => g s (putAll x (a :: ts) v) := by
          intro l
          induction l with
          | nil => rfl
          | cons v l ihl =>
            rw [List.findSome?_cons, List.findSome?_cons, ihl]
            have e : (((prodL (ts.map Ls)).map (v :: ·)).find? fun v => p (putAll x (a :: ts) v)) = ((prodL (ts.map Ls)).find? fun w => p (putAll (x.set a v) ts w)).map (v :: ·) := by
              rw [List.find?_map]; rfl
            rw [e]
            cases (prodL (ts.map Ls)).find? fun w => p (putAll (x.set a v) ts w) <;> rfl
        rw [key]
        cases (Ls a).findSome? fun v => ((prodL (ts.map Ls)).map (v :: ·)).find? fun v => p (putAll x (a :: ts) v) <;> rfl
    · rw [if_neg ht] at h0
      rw [h0]
      simp only
      exact onS_find p g lists Ls k (t + 1) x s ts hs (fun j hj => by
        have h1 := hin j hj
        have : j ≠ t := fun e => ht (e ▸ hj)
        omega) fun j h1 h2 => hl j (by omega) (by omega)
end S
end Go.Proofs.YtecmlmngcnionaaGreat
namespace Go.Proofs.YtecmlmngcnionaaGreat
open Go Go.Sx
namespace S
/-- Two values stand alike among the cuts of a trait. -/
def Alike (m : Model) (t : Nat) (a b : Int) : Prop := (a = -1 ↔ b = -1) ∧ ∀ c, CutOf m t c → (c ≤ a ↔ c ≤ b)
theorem Alike.refl (m : Model) (t : Nat) (a : Int) : Alike m t a a := ⟨Iff.rfl, fun _ _ => Iff.rfl⟩
section
variable {m : Model} {x y : List Int}
theorem onCard_alike {c : Card} (hc : c ∈ m.cards) (hl : c.scales.length = x.length) (hy : y.length = x.length) (h : ∀ (t : Nat) (a b : Int), x[t]? = some a → y[t]? = some b → Alike m t a b) : onCard c x = onCard c y := by
  unfold onCard parts
  congr 2
  refine List.map_congr_left fun p hp => ?_
  obtain ⟨j, hj⟩ := List.getElem?_of_mem hp
  rw [List.getElem?_zipIdx] at hj
  cases hs : c.scales[j]? with
  | none => rw [hs] at hj; cases hj
  | some s =>
    rw [hs] at hj
    have : p = (s, j) := by simpa using hj.symm
    subst this
    have hjl := get_lt hs
    have ha : x[j]? = some x[j] := List.getElem?_eq_getElem (by omega)
    have hb : y[j]? = some y[j] := List.getElem?_eq_getElem (by omega)
    obtain ⟨h1, h2⟩ := h j _ _ ha hb
    simp only [ha, hb, Option.getD_some]
    unfold onScale
    by_cases e : x[j] = -1
    · rw [if_pos e, if_pos (h1.1 e)]
    · rw [if_neg e, if_neg (fun e' => e (h1.2 e'))]
      have hf : s.cuts.filter (fun c => decide (c ≤ x[j])) = s.cuts.filter fun c => decide (c ≤ y[j]) := by
        refine List.filter_congr fun d hd => ?_
        have := h2 d (.inl ⟨c, hc, s, hs, hd⟩)
        exact decide_eq_decide.2 this
      rw [hf]
theorem onTree_alike {t : Tree} (ht : t ∈ m.trees) (hok : treeOk t m.traits = true) (hl : (x.length : Int) = m.traits) (hy : y.length = x.length) (h : ∀ (t : Nat) (a b : Int), x[t]? = some a → y[t]? = some b → Alike m t a b) : onTree t x = onTree t y := by
  have hn := (treeOk_iff.1 hok).2.2.2.2
  have key : ∀ (k : Nat) (i : Int), onTreeFrom t x k i = onTreeFrom t y k i := by
    intro k
    induction k with
    | zero => intro i; rfl
    | succ k ih =>
      intro i
      unfold onTreeFrom
      cases hg : t.nodes[i.toNat]? with
      | none => rfl
      | some n =>
        simp only
        by_cases e : n.trait = -1
        · rw [if_pos e, if_pos e]
        · rw [if_neg e, if_neg e]
          have hk := node_asks (hn _ n hg) e
          have ha : x[n.trait.toNat]? = some (x[n.trait.toNat]'(by omega)) := List.getElem?_eq_getElem (by omega)
          have hb : y[n.trait.toNat]? = some (y[n.trait.toNat]'(by omega)) := List.getElem?_eq_getElem (by omega)
          have := (h _ _ _ ha hb).2 n.cut (.inr ⟨t, ht, n, List.mem_of_getElem? hg, by omega, rfl⟩)
          rw [ha, hb, Option.getD_some, Option.getD_some, ih, ih]
          by_cases e1 : x[n.trait.toNat]'(by omega) < n.cut
          · rw [if_pos e1, if_pos (by omega)]
          · rw [if_neg e1, if_neg (by omega)]
  exact key _ _
theorem score_alike (hm : modelOk m = true) (hl : (x.length : Int) = m.traits) (hy : y.length = x.length) (h : ∀ (t : Nat) (a b : Int), x[t]? = some a → y[t]? = some b → Alike m t a b) : score m x = score m y := by
  obtain ⟨_, _, _, _, _, h6, h7⟩ := modelOk_iff.1 hm
  unfold score
  congr 1
  · congr 1
    refine List.map_congr_left fun c hc => ?_
    obtain ⟨j, hj⟩ := List.getElem?_of_mem hc
    have := (cardOk_iff.1 (h6 j c hj)).2.2.2.1
    rw [onCard_alike hc (by omega) hy h]
  · congr 1
    refine List.map_congr_left fun t ht => ?_
    obtain ⟨j, hj⟩ := List.getElem?_of_mem ht
    rw [onTree_alike ht (h7 j t hj) hl hy h]
end
theorem top_le : ∀ (L : List Int) (a : Int), (∃ v ∈ L, v ≤ a) → ∃ v ∈ L, v ≤ a ∧ ∀ u ∈ L, u ≤ a → u ≤ v
  | [], _, ⟨_, h, _⟩ => by cases h
  | b :: L, a, h => by
    by_cases hL : ∃ v ∈ L, v ≤ a
    · obtain ⟨v, h1, h2, h3⟩ := top_le L a hL
      by_cases hb : b ≤ a ∧ v < b
      · refine ⟨b, List.mem_cons_self .., hb.1, fun u hu hua => ?_⟩
        rcases List.mem_cons.1 hu with rfl | hu
        · exact Int.le_refl _
        · have := h3 u hu hua; omega
      · refine ⟨v, List.mem_cons_of_mem _ h1, h2, fun u hu hua => ?_⟩
        rcases List.mem_cons.1 hu with rfl | hu
        · omega
        · exact h3 u hu hua
    · obtain ⟨v, h1, h2⟩ := h
      rcases List.mem_cons.1 h1 with rfl | h1
      · refine ⟨v, List.mem_cons_self .., h2, fun u hu hua => ?_⟩
        rcases List.mem_cons.1 hu with rfl | hu
        · exact Int.le_refl _
        · exact absurd ⟨u, hu, hua⟩ hL
      · exact absurd ⟨v, h1, h2⟩ hL
/-- The step on which a value stands. -/
theorem step_of (m : Model) (t : Nat) {s : Span} {a : Int} (h0 : 0 ≤ s.lo) (h1 : s.lo ≤ a) (h2 : a ≤ s.hi) : ∃ v ∈ stepsS m t s, v ≤ a ∧ Alike m t v a := by
  have hg := (stepsS_good m t s).2
  have hlo : s.lo ∈ stepsS m t s := (hg _).2 (.inl rfl)
  obtain ⟨v, hv, h3, h4⟩ := top_le (stepsS m t s) a ⟨_, hlo, h1⟩
  have h5 := h4 _ hlo h1
  refine ⟨v, hv, h3, ⟨fun h => by omega, fun h => by omega⟩, fun c hc => ⟨fun h => by omega, fun h => ?_⟩⟩
  by_cases e : c ≤ s.lo
  · omega
  · exact h4 c ((hg c).2 (.inr ⟨hc, by omega, by omega⟩)) h
theorem steps_bd {m : Model} {t : Nat} {s : Span} {v : Int} (hs : s.lo ≤ s.hi) (hv : v ∈ stepsS m t s) : s.lo ≤ v ∧ v ≤ s.hi := by
  rcases ((stepsS_good m t s).2 v).1 hv with h | ⟨_, h1, h2⟩ <;> omega
theorem mem_prodL : ∀ {ls : List (List Int)} {v : List Int}, v ∈ prodL ls ↔ v.length = ls.length ∧ ∀ (j : Nat) (a : Int) (l : List Int), v[j]? = some a → ls[j]? = some l → a ∈ l
  | [], v => by
    simp only [prodL, List.mem_singleton, List.length_nil]
    constructor
    · rintro rfl; exact ⟨rfl, fun j a l h => by simp at h⟩
    · rintro ⟨h, _⟩; exact List.eq_nil_of_length_eq_zero h
  | l :: ls, [] => by
    simp only [prodL, List.mem_flatMap, List.mem_map, List.length_nil, List.length_cons]
    constructor
    · rintro ⟨_, _, _, _, h⟩; cases h
    · rintro ⟨h, _⟩; cases h
  | l :: ls, b :: v => by
    have ih := mem_prodL (ls := ls) (v := v)
    simp only [prodL, List.mem_flatMap, List.mem_map, List.length_cons]
    constructor
    · rintro ⟨b', hb, v', hv, e⟩
      cases e
      obtain ⟨h1, h2⟩ := ih.1 hv
      refine ⟨by omega, fun j a l' ha hl => ?_⟩
      cases j with
      | zero => simp at ha hl; subst ha hl; exact hb
      | succ j => exact h2 j a l' (by simpa using ha) (by simpa using hl)
    · rintro ⟨h1, h2⟩
      exact ⟨b, h2 0 b l rfl rfl, v, ih.2 ⟨by omega, fun j a l' ha hl => h2 (j + 1) a l' (by simpa using ha) (by simpa using hl)⟩, rfl⟩
theorem build {P : Nat → Int → Prop} : ∀ (n : Nat), (∀ j < n, ∃ v, P j v) → ∃ l : List Int, l.length = n ∧ ∀ (j : Nat) (a : Int), l[j]? = some a → P j a
  | 0, _ => ⟨[], rfl, fun j a h => by simp at h⟩
  | n + 1, h => by
    obtain ⟨l, h1, h2⟩ := build (P := P) n fun j hj => h j (by omega)
    obtain ⟨v, hv⟩ := h n (by omega)
    refine ⟨l ++ [v], by simp [h1], fun j a ha => ?_⟩
    rw [List.getElem?_append] at ha
    split at ha
    · exact h2 j a ha
    · rename_i hj
      have hlt := get_lt ha
      have : j - l.length = 0 := by simp at hlt; omega
      rw [this] at ha
      have : v = a := by simpa using ha
      have : j = n := by omega
      subst this; simp_all
/-- Values within spans. -/
def InSpans (x : List Span) (y : List Int) : Prop := y.length = x.length ∧ ∀ (j : Nat) (a : Int) (s : Span), y[j]? = some a → x[j]? = some s → s.lo ≤ a ∧ a ≤ s.hi
theorem okSpan_iff {s : Span} : okSpan s = true ↔ 0 ≤ s.lo ∧ s.lo ≤ s.hi ∧ s.hi ≤ 1000000 := by
  unfold okSpan
  rw [decide_eq_true_eq]; omega
section
variable {m : Model} {x : List Span}
theorem in_get (hall : x.all okSpan = true) {j : Nat} {s : Span} (h : x[j]? = some s) : 0 ≤ s.lo ∧ s.lo ≤ s.hi ∧ s.hi ≤ 1000000 := okSpan_iff.1 (List.all_eq_true.1 hall s (List.mem_of_getElem? h))
theorem InSpans.valuesOk {y : List Int} (hall : x.all okSpan = true) (hlen : (x.length : Int) = m.traits) (h : InSpans x y) : valuesOk m y = true := by
  refine valuesOk_iff.2 ⟨by have := h.1; omega, fun j a ha => ?_⟩
  have hj := get_lt ha
  have hs : x[j]? = some (x[j]'(by have := h.1; omega)) := List.getElem?_eq_getElem (by have := h.1; omega)
  have h1 := h.2 j a _ ha hs
  have h2 := in_get hall hs
  omega
end
end S
end Go.Proofs.YtecmlmngcnionaaGreat
namespace Go.Proofs.YtecmlmngcnionaaGreat
open Go Go.Sx
namespace S
/-- The traits of which f is so. -/
def tsOf (n : Nat) (f : Nat → Bool) : List Nat := (List.range n).filter f
def lsOf (n : Nat) (f : Nat → Bool) : List Int := (tsOf n f).map fun (t : Nat) => (t : Int)
theorem tsOf_mem {n : Nat} {f : Nat → Bool} {t : Nat} : t ∈ tsOf n f ↔ t < n ∧ f t = true := by simp [tsOf]
theorem tsOf_asc (n : Nat) (f : Nat → Bool) : (tsOf n f).Pairwise (· < ·) := List.pairwise_lt_range.filter _
theorem lsOf_mem {n : Nat} {f : Nat → Bool} {t : Nat} : (t : Int) ∈ lsOf n f ↔ t < n ∧ f t = true := by
  unfold lsOf
  rw [List.mem_map]
  constructor
  · rintro ⟨a, ha, e⟩
    have : a = t := by omega
    subst this
    exact tsOf_mem.1 ha
  · intro h; exact ⟨t, tsOf_mem.2 h, rfl⟩
theorem sets_form {n : Nat} {l : List Int} (h : l ∈ setsS n) : ∃ f, l = lsOf n f := by
  unfold setsS at h
  rw [List.mem_mergeSort] at h
  obtain ⟨b, _, rfl⟩ := List.mem_map.1 (List.mem_filter.1 h).1
  exact ⟨bitB b, rfl⟩
theorem sets_asc (n : Nat) : (setsS n).Pairwise fun a b => setc a b ≤ 0 := by
  have := List.pairwise_mergeSort (le := fun a b => decide (setc a b ≤ 0)) (fun a b c h1 h2 => by
    rw [decide_eq_true_eq] at *
    exact (setc_trans a b c h1 h2).1) setc_total (setsAll n)
  exact this.imp fun h => by simpa using h
/-- The first of a list in order of which p is so is not after any other one. -/
theorem find_first {α : Type} {R : α → α → Prop} {p : α → Bool} {l : List α} (hl : l.Pairwise R) {a b : α} (h : l.find? p = some a) (hb : b ∈ l) (hp : p b = true) : a = b ∨ R a b := by
  obtain ⟨_, ps, qs, e, h2⟩ := List.find?_eq_some_iff_append.1 h
  rw [e] at hb hl
  rcases List.mem_append.1 hb with h3 | h3
  · have := h2 b h3; rw [hp] at this; cases this
  · rcases List.mem_cons.1 h3 with h3 | h3
    · exact .inl h3.symm
    · exact .inr ((List.pairwise_cons.1 (List.pairwise_append.1 hl).2.1).1 b h3)
theorem lexc_le : ∀ {a b : List Int}, a.length = b.length → (∀ (j : Nat) x y, a[j]? = some x → b[j]? = some y → x ≤ y) → lexc a b ≤ 0
  | [], [], _, _ => by simp [lexc]
  | x :: a, y :: b, hl, h => by
    have h0 := h 0 x y rfl rfl
    simp only [lexc]
    by_cases h1 : x < y
    · simp [h1]
    · have : ¬ y < x := by omega
      simp only [h1, this, if_false]
      exact lexc_le (by simpa using hl) fun j x y hx hy => h (j + 1) x y (by simpa using hx) (by simpa using hy)
  | [], _ :: _, h, _ => by simp at h
  | _ :: _, [], h, _ => by simp at h
theorem prodL_asc : ∀ {ls : List (List Int)}, (∀ l ∈ ls, l.Pairwise (· < ·)) → (prodL ls).Pairwise fun a b => lexc a b ≤ 0
  | [], _ => by simp [prodL]
  | l :: ls, h => by
    have ih := prodL_asc (ls := ls) fun l hl => h l (List.mem_cons_of_mem _ hl)
    simp only [prodL]
    rw [List.pairwise_flatMap]
    refine ⟨fun v _ => ?_, (h l (List.mem_cons_self ..)).imp fun {v w} hvw a ha b hb => ?_⟩
    · rw [List.pairwise_map]
      exact ih.imp fun {a b} hab => by simpa only [lexc, Int.lt_irrefl, if_false] using hab
    · obtain ⟨a', _, rfl⟩ := List.mem_map.1 ha
      obtain ⟨b', _, rfl⟩ := List.mem_map.1 hb
      simp [lexc, hvw]
theorem putAll_not : ∀ {ts : List Nat} {x v : List Int} {t : Nat}, t ∉ ts → (putAll x ts v)[t]? = x[t]?
  | [], x, v, t, _ => by cases v <;> rfl
  | a :: ts, x, [], t, _ => rfl
  | a :: ts, x, b :: v, t, h => by
    rw [putAll, putAll_not fun h' => h (List.mem_cons_of_mem _ h'), List.getElem?_set_ne fun e => h (by rw [← e]; exact List.mem_cons_self ..)]
theorem putAll_at : ∀ {ts : List Nat} {x v : List Int}, ts.Pairwise (· < ·) → v.length = ts.length → (∀ t ∈ ts, t < x.length) → ∀ {i t : Nat}, ts[i]? = some t → (putAll x ts v)[t]? = v[i]?
  | [], _, _, _, _, _, i, t, h => by simp at h
  | a :: ts, x, [], _, hl, _, i, t, h => by simp at hl
  | a :: ts, x, b :: v, hs, hl, hx, 0, t, h => by
    have hs := List.pairwise_cons.1 hs
    simp at h
    subst h
    rw [putAll, putAll_not fun h' => by have := hs.1 _ h'; omega, List.getElem?_set_self (hx _ (List.mem_cons_self ..))]; rfl
  | a :: ts, x, b :: v, hs, hl, hx, i + 1, t, h => by
    have hs := List.pairwise_cons.1 hs
    rw [putAll, putAll_at hs.2 (by simpa using hl) (fun t ht => by rw [List.length_set]; exact hx t (List.mem_cons_of_mem _ ht)) (i := i) (by simpa using h)]
    simp
/-- Other values of the traits of which f is so. -/
def Choice (x : List Int) (f : Nat → Bool) (y : List Int) : Prop := y.length = x.length ∧ ∀ (j : Nat) (a b : Int), x[j]? = some a → y[j]? = some b → if f j then 0 ≤ b ∧ b ≤ 1000000 else b = a
theorem steps_asc (m : Model) (t : Nat) (s : Span) : (stepsS m t s).Pairwise (· < ·) := (stepsS_good m t s).1
section
variable {m : Model} {x : List Int} {f : Nat → Bool}
def pR (m : Model) (x y : List Int) : Bool := !(enB m (score m y) == enB m (score m x))
def Lw (m : Model) (t : Nat) : List Int := stepsS m t whole
theorem ts_get {n i t : Nat} (h : (tsOf n f)[i]? = some t) : t < n ∧ f t = true := tsOf_mem.1 (List.mem_of_getElem? h)
theorem choice_of {v : List Int} (hv : v ∈ prodL ((tsOf x.length f).map (Lw m))) : Choice x f (putAll x (tsOf x.length f) v) := by
  obtain ⟨h1, h2⟩ := mem_prodL.1 hv
  rw [List.length_map] at h1
  refine ⟨putAll_len .., fun j a b ha hb => ?_⟩
  have hj := get_lt ha
  by_cases e : f j = true
  · rw [if_pos e]
    obtain ⟨i, hi⟩ := List.getElem?_of_mem (tsOf_mem.2 ⟨hj, e⟩)
    rw [putAll_at (tsOf_asc ..) h1 (fun t ht => (tsOf_mem.1 ht).1) hi] at hb
    have := h2 i b (Lw m j) hb (by rw [List.getElem?_map, hi]; rfl)
    have := steps_bd (by decide) this
    exact this
  · rw [if_neg e]
    rw [putAll_not fun h => e (tsOf_mem.1 h).2, ha] at hb
    cases hb; rfl
/-- The steps on which other values stand. -/
theorem choice_step (hm : modelOk m = true) (hl : (x.length : Int) = m.traits) {y : List Int} (hy : Choice x f y) :
    ∃ u ∈ prodL ((tsOf x.length f).map (Lw m)), score m (putAll x (tsOf x.length f) u) = score m y ∧ ∀ (i t : Nat) a b, (tsOf x.length f)[i]? = some t → u[i]? = some a → y[t]? = some b → a ≤ b := by
  obtain ⟨u, h1, h2⟩ := build (P := fun i a => ∀ t b, (tsOf x.length f)[i]? = some t → y[t]? = some b → a ∈ Lw m t ∧ a ≤ b ∧ Alike m t a b) (tsOf x.length f).length fun i hi => by
    have ht : (tsOf x.length f)[i]? = some (tsOf x.length f)[i] := List.getElem?_eq_getElem hi
    generalize (tsOf x.length f)[i] = t at ht
    obtain ⟨q1, q2⟩ := ts_get ht
    have hxa : x[t]? = some x[t] := List.getElem?_eq_getElem q1
    have hyb : y[t]? = some (y[t]'(by have := hy.1; omega)) := List.getElem?_eq_getElem (by have := hy.1; omega)
    have := hy.2 t _ _ hxa hyb
    rw [if_pos q2] at this
    obtain ⟨v, hv⟩ := step_of m t (s := whole) (by decide) this.1 this.2
    exact ⟨v, fun t' b ht' hb => by rw [ht] at ht'; cases ht'; rw [hyb] at hb; cases hb; exact hv⟩
  have hget : ∀ (i t : Nat) a, (tsOf x.length f)[i]? = some t → u[i]? = some a → ∃ b, y[t]? = some b ∧ a ∈ Lw m t ∧ a ≤ b ∧ Alike m t a b := fun i t a ht ha => by
    have q := (ts_get ht).1
    have hyb : y[t]? = some (y[t]'(by have := hy.1; omega)) := List.getElem?_eq_getElem (by have := hy.1; omega)
    exact ⟨_, hyb, h2 i a ha t _ ht hyb⟩
  refine ⟨u, mem_prodL.2 ⟨by rw [List.length_map, h1], fun i a l ha hl' => ?_⟩, ?_, fun i t a b ht ha hb => ?_⟩
  · rw [List.getElem?_map] at hl'
    cases ht : (tsOf x.length f)[i]? with
    | none => rw [ht] at hl'; cases hl'
    | some t =>
      rw [ht] at hl'; cases hl'
      obtain ⟨b, _, h3, _⟩ := hget i t a ht ha
      exact h3
  · refine score_alike hm (by rw [putAll_len]; exact hl) (by rw [putAll_len]; exact hy.1) fun t a b ha hb => ?_
    have hj := get_lt hb
    have htl : t < x.length := by have := hy.1; omega
    by_cases e : f t = true
    · obtain ⟨i, hi⟩ := List.getElem?_of_mem (tsOf_mem.2 ⟨htl, e⟩)
      rw [putAll_at (tsOf_asc ..) h1 (fun t ht => (tsOf_mem.1 ht).1) hi] at ha
      obtain ⟨b', hb', _, _, h5⟩ := hget i t a hi ha
      rw [hb] at hb'; cases hb'; exact h5
    · rw [putAll_not fun h => e (tsOf_mem.1 h).2] at ha
      have := hy.2 t a b ha hb
      rw [if_neg e] at this
      rw [this]; exact Alike.refl ..
  · obtain ⟨b', hb', _, h4, _⟩ := hget i t a ht ha
    rw [hb] at hb'; cases hb'; exact h4
theorem picks_put {ts : List Nat} {v : List Int} (hs : ts.Pairwise (· < ·)) (hl : v.length = ts.length) (hx : ∀ t ∈ ts, t < x.length) : picksOf (ts.map fun (t : Nat) => (t : Int)) (putAll x ts v) = v := by
  unfold picksOf
  refine List.ext_getElem? fun i => ?_
  rw [List.getElem?_map, List.getElem?_map]
  cases ht : ts[i]? with
  | none =>
    have := List.getElem?_eq_none_iff.1 ht
    rw [List.getElem?_eq_none (by omega)]; rfl
  | some t =>
    have hi := get_lt ht
    have hv : v[i]? = some (v[i]'(by omega)) := List.getElem?_eq_getElem (by omega)
    simp only [Option.map_some, Int.toNat_natCast]
    rw [putAll_at hs hl hx ht, hv]; rfl
theorem tryR_is : tryR m x (lsOf x.length f) = match (prodL ((tsOf x.length f).map (Lw m))).find? fun v => pR m x (putAll x (tsOf x.length f) v) with | none => (false, []) | some v => (true, v) := by
  have e : soR m (enB m (score m x)) (lsOf x.length f) = fun s y => if pR m x y = true then (true, s ++ picksOf (lsOf x.length f) y) else (false, s) := by
    funext s y
    unfold soR pR
    cases enB m (score m y) == enB m (score m x) <;> rfl
  unfold tryR
  rw [e, onS_find (pR m x) (fun s y => s ++ picksOf (lsOf x.length f) y) (listsR m (lsOf x.length f)) (Lw m) x.length 0 x [] (tsOf x.length f) (tsOf_asc ..) (fun j hj => by have := (tsOf_mem.1 hj).1; omega) (fun j _ hj => by
    unfold listsR
    by_cases h : j ∈ tsOf x.length f
    · rw [if_pos h, if_pos (lsOf_mem.2 (tsOf_mem.1 h))]; rfl
    · rw [if_neg h, if_neg fun h' => h (tsOf_mem.2 (lsOf_mem.1 h'))])]
  cases hf : (prodL ((tsOf x.length f).map (Lw m))).find? fun v => pR m x (putAll x (tsOf x.length f) v) with
  | none => rfl
  | some v =>
    have hv := (mem_prodL.1 (List.mem_of_find?_eq_some hf)).1
    rw [List.length_map] at hv
    simp only [List.nil_append]
    unfold lsOf
    rw [picks_put (tsOf_asc ..) hv fun t ht => (tsOf_mem.1 ht).1]
theorem tryR_some (hm : modelOk m = true) (hl : (x.length : Int) = m.traits) (h : (tryR m x (lsOf x.length f)).1 = true) :
    (tryR m x (lsOf x.length f)).2.length = (tsOf x.length f).length ∧ Choice x f (putAll x (tsOf x.length f) (tryR m x (lsOf x.length f)).2) ∧ enB m (score m (putAll x (tsOf x.length f) (tryR m x (lsOf x.length f)).2)) ≠ enB m (score m x) ∧
      (∀ (i : Nat) v, (tryR m x (lsOf x.length f)).2[i]? = some v → 0 ≤ v ∧ v ≤ 1000000) ∧
      ∀ y, Choice x f y → enB m (score m y) ≠ enB m (score m x) → ∀ w : List Int, w.length = (tsOf x.length f).length → (∀ (i t : Nat), (tsOf x.length f)[i]? = some t → w[i]? = y[t]?) → lexc (tryR m x (lsOf x.length f)).2 w ≤ 0 := by
  rw [tryR_is] at h ⊢
  cases hf : (prodL ((tsOf x.length f).map (Lw m))).find? fun v => pR m x (putAll x (tsOf x.length f) v) with
  | none => rw [hf] at h; cases h
  | some v =>
    simp only
    have hv := List.mem_of_find?_eq_some hf
    have hp := List.find?_some hf
    obtain ⟨h1, h2⟩ := mem_prodL.1 hv
    rw [List.length_map] at h1
    refine ⟨h1, choice_of hv, by unfold pR at hp; simpa using hp, fun i a ha => ?_, fun y hy hne w hw hwy => ?_⟩
    · have hi := get_lt ha
      have ht : (tsOf x.length f)[i]? = some ((tsOf x.length f)[i]'(by omega)) := List.getElem?_eq_getElem (by omega)
      exact steps_bd (by decide) (h2 i a (Lw m _) ha (by rw [List.getElem?_map, ht]; rfl))
    · obtain ⟨u, hu, h3, h4⟩ := choice_step hm hl hy
      have hpu : pR m x (putAll x (tsOf x.length f) u) = true := by unfold pR; rw [h3]; simpa using hne
      have hul := (mem_prodL.1 hu).1
      rw [List.length_map] at hul
      have huw : lexc u w ≤ 0 := lexc_le (by omega) fun j a b ha hb => by
        have hj := get_lt ha
        have ht : (tsOf x.length f)[j]? = some ((tsOf x.length f)[j]'(by omega)) := List.getElem?_eq_getElem (by omega)
        exact h4 j _ a b ht ha (by rw [← hwy j _ ht]; exact hb)
      rcases find_first (prodL_asc (ls := (tsOf x.length f).map (Lw m)) fun l hl => by obtain ⟨t, _, rfl⟩ := List.mem_map.1 hl; exact steps_asc ..) hf hu hpu with e | e
      · rw [e]; exact huw
      · exact (lexc_trans _ _ _ e huw).1
end
end S
end Go.Proofs.YtecmlmngcnionaaGreat
namespace Go.Proofs.YtecmlmngcnionaaGreat
open Go Go.Sx
namespace S
theorem putAll_snoc : ∀ (n : Nat) (x : List Int) (ts : List Nat) (v : List Int) {t : Nat} {b : Int}, ts[n]? = some t → v[n]? = some b → putAll x (ts.take (n + 1)) (v.take (n + 1)) = (putAll x (ts.take n) (v.take n)).set t b
  | _, _, [], _, _, _, h, _ => by simp at h
  | _, _, _ :: _, [], _, _, _, h => by simp at h
  | 0, x, a :: ts, c :: v, t, b, h1, h2 => by
    simp at h1 h2
    subst h1 h2
    simp [putAll]
  | n + 1, x, a :: ts, c :: v, t, b, h1, h2 => by
    rw [List.take_succ_cons, List.take_succ_cons, List.take_succ_cons, List.take_succ_cons, putAll, putAll]
    exact putAll_snoc n (x.set a c) ts v (by simpa using h1) (by simpa using h2)
theorem enB_is (m : Model) (n : Int) : decide (1000 * m.need ≤ n) = enB m n := by unfold enB; rw [Int.mul_comm]
theorem p_refset (n b : Nat) (hn : n ≤ 5) (hb : b < 64) : P.ref06_set (b : Int) (n : Int) = some (setOf n b) := by
  unfold P.ref06_set
  rw [p_set n b hn hb, bindS]
theorem p_earlier : ∀ (a b : List Int), a.length = b.length → a.length ≤ 1000 → P.ref06_earlier a b = some (decide (lexc a b < 0)) := by
  intro a b hl hs
  have key : Ret (P.ref06_earlier a b) fun r => r = decide (lexc a b < 0) := by
    unfold P.ref06_earlier
    refine Ret.bind (Ret.loop (fun t : Int => ∃ n : Nat, t = n ∧ n ≤ a.length ∧ lexc a b = lexc (a.drop n) (b.drop n)) (fun t => a.length - t.toNat) ⟨0, rfl, Nat.zero_le _, rfl⟩ ?_)
    rintro _ ⟨n, rfl, hn, hlx⟩
    refine Ret.cond (fun h => ?_) fun h => ?_
    · have hlt : n < a.length := by have := of_decide_eq_true h; omega
      have ha : a[n]? = some a[n] := List.getElem?_eq_getElem hlt
      have hb : b[n]? = some (b[n]'(by omega)) := List.getElem?_eq_getElem (by omega)
      have hd : lexc (a.drop n) (b.drop n) = if a[n] < b[n]'(by omega) then -1 else if b[n]'(by omega) < a[n] then 1 else lexc (a.drop (n + 1)) (b.drop (n + 1)) := by
        rw [List.drop_eq_getElem_cons hlt, List.drop_eq_getElem_cons (show n < b.length by omega)]; rfl
      rw [hd] at hlx
      generalize a[n] = y at *
      generalize b[n]'(by omega) = z at *
      refine Ret.bind (Ret.ixo ha (Ret.bind (Ret.ixo hb (Ret.cond (fun h2 => ?_) fun h2 => ?_))))
      · have hne : ¬ y = z := by simpa using h2
        refine Ret.bind (Ret.ixo ha (Ret.bind (Ret.ixo hb (Ret.done (Ret.elimR (Ret.ok ?_))))))
        rw [hlx]
        by_cases h3 : y < z
        · simp [h3]
        · have h4 : z < y := by omega
          simp [h3, h4]
      · have he : y = z := by simpa using h2
        subst he
        simp only [Int.lt_irrefl, if_false] at hlx
        exact Ret.bind (Ret.chk (by omega) (Ret.next ⟨⟨n + 1, rfl, hlt, hlx⟩, by omega⟩))
    · have hn2 : n = a.length := by have := of_decide_eq_false h; omega
      subst hn2
      refine Ret.done (Ret.elimL (Ret.ok ?_))
      rw [hlx, List.drop_eq_nil_of_le (by omega), List.drop_eq_nil_of_le (by omega)]; rfl
  obtain ⟨r, h1, h2⟩ := key
  rw [h1, h2]
section
variable {m : Model} {x : List Int} {f : Nat → Bool}
theorem Lw_ne (m : Model) (f : Nat → Bool) (n : Nat) : ∀ l ∈ (tsOf n f).map (Lw m), l ≠ [] := by
  intro l hl e
  obtain ⟨t, _, rfl⟩ := List.mem_map.1 hl
  have := ((stepsS_good m t whole).2 0).2 (.inl rfl)
  unfold Lw at e
  rw [e] at this; cases this
theorem p_other (hm : modelOk m = true) (hx : valuesOk m x = true) : P.ref06_other m x (lsOf x.length f) (enB m (score m x)) = some ((tryR m x (lsOf x.length f)).2, (tryR m x (lsOf x.length f)).1) := by
  have key : Ret (P.ref06_other m x (lsOf x.length f) (enB m (score m x))) fun r => r = ((tryR m x (lsOf x.length f)).2, (tryR m x (lsOf x.length f)).1) := by
    obtain ⟨hl, hv⟩ := valuesOk_iff.1 hx
    have ht := (modelOk_iff.1 hm).2.1
    have hneed := pt_iff.1 (modelOk_iff.1 hm).2.2.1
    have hlen : (lsOf x.length f).length = (tsOf x.length f).length := by unfold lsOf; rw [List.length_map]
    have htl : (tsOf x.length f).length ≤ 5 := by
      have := List.length_filter_le f (List.range x.length)
      rw [List.length_range] at this
      unfold tsOf; omega
    unfold P.ref06_other
    rw [show (Model.mk m.traits m.cards m.trees m.need) = m from rfl]
    generalize hts : tsOf x.length f = ts at *
    have hget : ∀ (i t : Nat), ts[i]? = some t → t < x.length ∧ (lsOf x.length f)[i]? = some (t : Int) := fun i t h => by
      have h2 : (tsOf x.length f)[i]? = some t := by rw [hts]; exact h
      refine ⟨(ts_get h2).1, ?_⟩
      unfold lsOf
      rw [List.getElem?_map, h2]; rfl
    have hasc : ts.Pairwise (· < ·) := hts ▸ tsOf_asc x.length f
    have hrng : ∀ t ∈ ts, t < x.length := fun t h => by
      obtain ⟨i, hi⟩ := List.getElem?_of_mem h
      exact (hget i t hi).1
    refine Ret.bind (Ret.loop (fun t : List (List Int) × Int => ∃ n : Nat, t.2 = n ∧ n ≤ ts.length ∧ t.1 = (ts.take n).map (Lw m)) (fun t => ts.length - t.2.toNat) ⟨0, rfl, Nat.zero_le _, rfl⟩ ?_)
    rintro ⟨_, _⟩ ⟨n, rfl, hn, rfl⟩
    dsimp only
    refine Ret.cond (fun h => ?_) fun h => ?_
    · have hlt : n < ts.length := by have := of_decide_eq_true h; omega
      have htn : ts[n]? = some ts[n] := List.getElem?_eq_getElem hlt
      generalize ts[n] = t at htn
      obtain ⟨q1, q2⟩ := hget n t htn
      refine Ret.bind (Ret.ixo q2 (Ret.bind (Ret.val (p_steps m t _ hm (by omega)) (Ret.bind (Ret.appo (by simp only [List.length_singleton, List.length_map, List.length_take]; omega) (by simp only [List.length_singleton, List.length_map, List.length_take]; omega) ?_)))))
      refine Ret.bind (Ret.chk (by omega) (Ret.next ⟨⟨n + 1, rfl, hlt, ?_⟩, ?_⟩))
      · dsimp only
        rw [List.take_add_one, htn, Option.toList_some, List.map_append]; rfl
      · simp only; omega
    · have hn2 : n = ts.length := by have := of_decide_eq_false h; omega
      subst hn2
      rw [List.take_of_length_le (Nat.le_refl _)]
      refine Ret.done ?_
      have hne : ∀ l ∈ ts.map (Lw m), l ≠ [] := hts ▸ Lw_ne m f x.length
      have hll : ∀ l ∈ ts.map (Lw m), l.length ≤ 1000000 := fun l hl => by
        obtain ⟨t, h1, rfl⟩ := List.mem_map.1 hl
        exact (p_stand m t whole hm (by have := hrng t h1; omega) (by decide)).2
      have hLl : (ts.map (Lw m)).length = ts.length := List.length_map ..
      have hfind := tryR_is (m := m) (x := x) (f := f)
      rw [hts] at hfind
      rw [hlen]
      generalize hLL : ts.map (Lw m) = LL at *
      refine Ret.bind (Ret.mko (by omega) (by omega) ?_)
      have hz := prodL_zero LL hne
      have hok0 := okAt_zero hne
      rw [hLl] at hz hok0
      refine Ret.bind (Ret.loop (fun t : List (List Int) × Bool × List Int => t.1 = LL ∧ okAt t.2.2 LL ∧ ((t.2.1 = true ∧ t.2.2 = List.replicate ts.length 0) ∨ (t.2.1 = false ∧ (prodL LL).find? (fun v => pR m x (putAll x ts v)) = (aft t.2.2 LL).find? fun v => pR m x (putAll x ts v))))
        (fun t => (if t.2.1 = true then 1 else 0) + (aft t.2.2 LL).length) ⟨rfl, hok0, .inl ⟨rfl, rfl⟩⟩ ?_)
      rintro ⟨l0, fst, a⟩ ⟨h0, hok, hst⟩
      dsimp only at h0 hok hst
      replace h0 := h0.symm
      subst h0
      -- what one choice does
      have round : ∀ a' : List Int, okAt a' LL → (prodL LL).find? (fun v => pR m x (putAll x ts v)) = (vals a' LL :: aft a' LL).find? (fun v => pR m x (putAll x ts v)) → (aft a' LL).length < (if fst = true then 1 else 0) + (aft a LL).length →
          Ret (Option.bind (appo 8 ([] : List Int) x) fun l76 => Option.bind (loopM (S := (List Int) × Int × (List Int)) (R := ((List Int) × (List Int))) (fun (x81, x82, x83) => cond (decide (x82 < (ts.length : Int))) (Option.bind (ixo (lsOf x.length f) x82) fun y85 => Option.bind (ixo LL x82) fun y92 => Option.bind (ixo a' x82) fun y100 => Option.bind (ixo y92 y100) fun y107 => Option.bind (ixo x83 y85) fun y114 => Option.bind (seto x83 y85 y107) fun l129 => Option.bind (ixo LL x82) fun y136 => Option.bind (ixo a' x82) fun y144 => Option.bind (ixo y136 y144) fun y151 => Option.bind (appo 8 x81 ([y151] : List Int)) fun l171 => Option.bind (chk .i64 (x82 + 1)) fun n182 => some (.inl (l171, n182, l129))) (some (.inr (x81, x83)))) ([], 0, l76)) fun (x183, x184) => Option.bind (P.ref06_score m x184) fun z185 => Option.bind (chk .i64 (1000 * m.need)) fun n190 => cond (!(decide (n190 ≤ z185) == enB m (score m x))) (some (.inr (.inr (x183, true)))) (some (.inl (LL, false, a'))))
            (Nxt (fun s' : List (List Int) × Bool × List Int => (s'.1 = LL ∧ okAt s'.2.2 LL ∧ ((s'.2.1 = true ∧ s'.2.2 = List.replicate ts.length 0) ∨ (s'.2.1 = false ∧ (prodL LL).find? (fun v => pR m x (putAll x ts v)) = (aft s'.2.2 LL).find? fun v => pR m x (putAll x ts v)))) ∧ (if s'.2.1 = true then 1 else 0) + (aft s'.2.2 LL).length < (if fst = true then 1 else 0) + (aft a LL).length)
              (fun r : List Int ⊕ (List Int × Bool) => ∃ v, r = .inr (v, true) ∧ (prodL LL).find? (fun v => pR m x (putAll x ts v)) = some v)) := by
        intro a' hok' hfi hmu
        have hal := okAt_len hok'
        have hvl : (vals a' LL).length = ts.length := by rw [vals_len hal]; omega
        refine Ret.bind (Ret.appo (by simp; omega) (by simp; omega) ?_)
        rw [List.nil_append]
        refine Ret.bind (Ret.loop (fun t : List Int × Int × List Int => ∃ n : Nat, t.2.1 = n ∧ n ≤ ts.length ∧ t.1 = (vals a' LL).take n ∧ t.2.2 = putAll x (ts.take n) ((vals a' LL).take n)) (fun t => ts.length - t.2.1.toNat) ⟨0, rfl, Nat.zero_le _, rfl, rfl⟩ ?_)
        rintro ⟨_, _, z⟩ ⟨k, rfl, hk, rfl, hz'⟩
        dsimp only at hz' ⊢
        refine Ret.cond (fun h2 => ?_) fun h2 => ?_
        · have hkl : k < ts.length := by have := of_decide_eq_true h2; omega
          have htk : ts[k]? = some ts[k] := List.getElem?_eq_getElem hkl
          generalize ts[k] = t at htk
          obtain ⟨q1, q2⟩ := hget k t htk
          have hLk : LL[k]? = some (LL[k]'(by omega)) := List.getElem?_eq_getElem (by omega)
          have hak : a'[k]? = some (a'[k]'(by omega)) := List.getElem?_eq_getElem (by omega)
          have hb := okAt_get hok' k _ _ hak hLk
          have hvk := vals_get hak hLk
          generalize LL[k]'(by omega) = L at *
          generalize a'[k]'(by omega) = j at *
          have hLj : L[j.toNat]? = some (L[j.toNat]'(by omega)) := List.getElem?_eq_getElem (by omega)
          rw [hLj, Option.getD_some] at hvk
          have hzl : z.length = x.length := by rw [hz']; exact putAll_len ..
          have hzt : z[t]? = some (z[t]'(by omega)) := List.getElem?_eq_getElem (by omega)
          refine Ret.bind (Ret.ixo q2 (Ret.bind (Ret.ixo hLk (Ret.bind (Ret.ixo hak (Ret.bind (Ret.ixoI hb.1 hb.2 fun c hc => ?_)))))))
          rw [hLj] at hc
          have hcv : (vals a' LL)[k]? = some c := by rw [hvk]; exact hc
          refine Ret.bind (Ret.ixo hzt (Ret.bind (Ret.seto (by omega) (Ret.bind (Ret.ixo hLk (Ret.bind (Ret.ixo hak (Ret.bind (Ret.ixoI hb.1 hb.2 fun c' hc' => ?_)))))))))
          rw [hLj] at hc'
          have hcc : c' = c := by rw [← Option.some.inj hc, ← Option.some.inj hc']
          subst hcc
          refine Ret.bind (Ret.appo (by simp only [List.length_singleton, List.length_take]; omega) (by simp only [List.length_singleton, List.length_take]; omega) (Ret.bind (Ret.chk (by omega) (Ret.next ⟨⟨k + 1, rfl, hkl, ?_, ?_⟩, ?_⟩))))
          · dsimp only
            rw [List.take_add_one, hcv]; rfl
          · dsimp only
            rw [putAll_snoc k x ts _ htk hcv, hz']
          · simp only; omega
        · have hk2 : k = ts.length := by have := of_decide_eq_false h2; omega
          subst hk2
          rw [List.take_of_length_le (Nat.le_refl _), List.take_of_length_le (by omega)] at hz'
          subst hz'
          refine Ret.done ?_
          dsimp only
          rw [List.take_of_length_le (by omega)]
          have hvin : ∀ (i : Nat) z, (vals a' LL)[i]? = some z → 0 ≤ z ∧ z ≤ 1000000 := fun i z hz => by
            have hi := get_lt hz
            obtain ⟨t, hti⟩ : ∃ t, ts[i]? = some t := ⟨_, List.getElem?_eq_getElem (show i < ts.length by omega)⟩
            obtain ⟨j, hai⟩ : ∃ j, a'[i]? = some j := ⟨_, List.getElem?_eq_getElem (show i < a'.length by omega)⟩
            have hLi : LL[i]? = some (Lw m t) := by rw [← hLL, List.getElem?_map, hti]; rfl
            have hb := okAt_get hok' i _ _ hai hLi
            have hlt : j.toNat < (Lw m t).length := by omega
            rw [vals_get hai hLi, List.getElem?_eq_getElem hlt] at hz
            have hmem := List.getElem_mem hlt
            rw [← Option.some.inj hz]
            exact steps_bd (by decide) hmem
          have hvo : valuesOk m (putAll x ts (vals a' LL)) = true := valuesOk_iff.2 ⟨by rw [putAll_len]; exact hl, fun j b hb => by
            have hj := get_lt hb
            rw [putAll_len] at hj
            by_cases e : j ∈ ts
            · obtain ⟨i, hi⟩ := List.getElem?_of_mem e
              rw [putAll_at hasc hvl hrng hi] at hb
              have := hvin i b hb; omega
            · rw [putAll_not e] at hb
              exact hv j b hb⟩
          refine Ret.bind (Ret.val (p_score m _ hm hvo) (Ret.bind (Ret.chk (by omega) ?_)))
          rw [enB_is]
          refine Ret.cond (fun h3 => ?_) fun h3 => ?_
          · refine Ret.done ⟨_, rfl, ?_⟩
            rw [hfi, List.find?_cons]
            have : pR m x (putAll x ts (vals a' LL)) = true := h3
            rw [this]
          · refine Ret.next ⟨⟨rfl, hok', .inr ⟨rfl, ?_⟩⟩, by simpa using hmu⟩
            rw [hfi, List.find?_cons]
            have : pR m x (putAll x ts (vals a' LL)) = false := h3
            rw [this]
      have last : ∀ r : List Int ⊕ (List Int × Bool), (∃ v, r = .inr (v, true) ∧ (prodL LL).find? (fun v => pR m x (putAll x ts v)) = some v) → Ret (Sum.elim (fun x196 => some (([] : List Int), false)) (fun r197 => some r197) r) fun r => r = ((tryR m x (lsOf x.length f)).2, (tryR m x (lsOf x.length f)).1) := by
        rintro _ ⟨v, rfl, hv⟩
        refine Ret.elimR (Ret.ok ?_)
        rw [hfind, hv]
      have weak : ∀ {A A' : List (List Int) × Bool × List Int → Prop} {B B' : List Int ⊕ (List Int × Bool) → Prop} {o : Option ((List (List Int) × Bool × List Int) ⊕ (List Int ⊕ (List Int × Bool)))}, Ret o (Nxt A B) → (∀ s, A s → A' s) → (∀ r, B r → B' r) → Ret o (Nxt A' B') := fun h h1 h2 => h.mono fun r hr => by
        cases r with
        | inl s => exact h1 s hr
        | inr r => exact h2 r hr
      refine Ret.bind (Ret.cond (fun h1 => Ret.ok ?_) fun h1 => ?_)
      · subst h1
        obtain ⟨_, rfl⟩ : true = true ∧ a = List.replicate ts.length 0 := by
          rcases hst with h | ⟨h, _⟩
          · exact h
          · cases h
        refine Ret.condT rfl (weak (round _ hok (by rw [← hz]) (by simp)) (fun s hs => hs) last)
      · subst h1
        have hfi : (prodL LL).find? (fun v => pR m x (putAll x ts v)) = (aft a LL).find? fun v => pR m x (putAll x ts v) := by
          rcases hst with ⟨h, _⟩ | ⟨_, h⟩
          · cases h
          · exact h
        have hal := okAt_len hok
        have hnx := p_next a LL hok (by omega) hll
        have hstep := nx_step a LL hok hne
        cases hn : nx a LL with
        | none =>
          rw [hn] at hnx hstep
          simp only at hstep
          rw [hstep] at hfi
          refine Ret.bind (Ret.val hnx (Ret.ok (Ret.condF rfl (Ret.done (Ret.elimL (Ret.ok ?_))))))
          rw [hfind, hfi]; rfl
        | some a' =>
          rw [hn] at hnx hstep
          simp only at hstep
          rw [hstep.1] at hfi
          refine Ret.bind (Ret.val hnx (Ret.ok (Ret.condT rfl (weak (round a' hstep.2 hfi (by rw [hstep.1]; simp)) (fun s hs => hs) last))))
  obtain ⟨r, h1, h2⟩ := key
  rw [h1, h2]
end
end S
end Go.Proofs.YtecmlmngcnionaaGreat
namespace Go.Proofs.YtecmlmngcnionaaGreat
open Go Go.Sx Go.RowKit
open Classical in
noncomputable def P.score_Reasons (m : Model) (x : List Int) : Option (List Int × List Int × Int) := if S.Small m ∧ x.length ≤ 10 ∧ (S.err m x = 0 → P.score_sets (x.length : Int) = some (S.setsS x.length)) then some (S.reasonsS m x) else none
theorem p_enough {m : Model} {n : Int} (hm : S.modelOk m = true) : P.score_works_enough (Works.mk m (S.partsOf m)) n = some (S.enB m n) := by
  have h := S.pt_iff.1 (S.modelOk_iff.1 hm).2.2.1
  unfold P.score_works_enough
  have hc : chk .i64 (m.need * 1000) = some (m.need * 1000) := chk_i64 (by omega)
  show Option.bind (chk .i64 (m.need * 1000)) _ = _
  rw [hc, bindS]; rfl
theorem score_in {m : Model} {x : List Int} (hm : S.modelOk m = true) (hx : S.valuesOk m x = true) : InK .i64 (S.score m x) := by
  have h := S.modelOk_iff.1 hm
  have h1 := S.scoreTo_bd m x hm (S.all m x).length (Nat.le_refl _)
  rw [S.score_eq, S.all_len] at h1
  rw [InK.i64]; omega
theorem subV {σ : List Res} {M : List Nat} {b5 : Nat} {u : Value} {s : List Int} (i : Nat) (hi : σ[i]? = some (valR b5 u s)) : ∀ b ∈ (b5 :: ob u) ++ M, b ∈ mm σ M := fun b hb => by
  rcases List.mem_append.1 hb with h | h
  · exact mem_mm.2 (.inl ⟨_, List.mem_of_getElem? hi, h⟩)
  · exact mem_mm.2 (.inr h)
theorem soR_G (m : Model) (yes : Bool) (l : List Int) : ∀ s y, s = [] → S.valuesOk m y = true → (S.soR m yes l s y).1 = false → (S.soR m yes l s y).2 = [] := by
  intro s y hs _ h
  unfold S.soR at h ⊢
  split
  · exact hs
  · rename_i hn; rw [if_neg hn] at h; cases h
set_option maxRecDepth 100000 in
set_option maxHeartbeats 8000000 in
theorem C_score_Reasons {M : List Nat} {w : World} (hM : MLt M w) {m : Model} {v_m_1 : Value} {v_m_2 : Value} (f_m_0 : InK IntKind.i64 m.traits) (f_m_1 : RdS CardE M w v_m_1 m.cards) (f_m_2 : RdS TreeE M w v_m_2 m.trees) (f_m_3 : InK IntKind.i64 m.need) {x : (List Int)} {v_x_0 : Value} (f_x_0 : RdS (intE .i64) M w v_x_0 x) {r0 : List Int} {r1 : List Int} {r2 : Int} (h : P.score_Reasons m x = some (r0, r1, r2)) :
    Calls Tryz.prog 6 (List.toArray [Value.agg (List.toArray [Value.int IntKind.i64 m.traits, v_m_1, v_m_2, Value.int IntKind.i64 m.need]), v_x_0]) w fun e w' => ∃ v0_0 : Value, ∃ v1_0 : Value, e = .returned (Value.tuple (List.toArray [v0_0, v1_0, Value.int IntKind.i64 r2])) ∧ RdS (intE .i64) M w' v0_0 r0 ∧ RdS (intE .i64) M w' v1_0 r1 ∧ InK IntKind.i64 r2 ∧ Ext w w' := by
  obtain ⟨⟨hsm, hx10, hsets⟩, hr⟩ : (S.Small m ∧ x.length ≤ 10 ∧ (S.err m x = 0 → P.score_sets (x.length : Int) = some (S.setsS x.length))) ∧ S.reasonsS m x = (r0, r1, r2) := by
    unfold P.score_Reasons at h
    split at h
    · rename_i h1; exact ⟨h1, Option.some.inj h⟩
    · cases h
  have hI := Hp.start (Mu := []) hM
  refine calls_cw Tryz.func6 rfl Tryz.ntmps6 rfl ?_
  refine cw_seq ?_
  refine cw_regF ?_
  refine y_box hI rfl rfl rfl (fun b2 w1 hI1 a1 => ?_)
  refine s_as rfl rfl ?_
  refine y_al hI1 Tryz.zeroValue26 rfl rfl (fun b5 w2 hI2 a2 => ?_)
  refine s_as rfl rfl ?_
  refine Reg.nil ?_
  refine cw_scope ?_
  refine cw_seq ?_
  refine cw_regF ?_
  refine s_lda rfl (hI2.row 1 rfl).rd.cells Tryz.isAgg25 rfl Tryz.sizeOf25 rfl ?_
  refine s_mv rfl rfl ?_
  refine s_call rfl Tryz.call10 rfl ?_
  refine (C_score_asked hI2.mlt f_m_0 (f_m_1.adv hI2.adv) (f_m_2.adv hI2.adv) f_m_3 (f_x_0.adv hI2.adv) (S.p_asked m x hsm hx10)).mono ?_
  rintro _ w3 ⟨v1, v2, v4, rfl, g0, g1, g2, g3, g4, g5, ex3⟩
  refine ⟨_, rfl, ?_⟩
  have hI3 := hI2.ext ex3
  refine s_mv rfl rfl ?_
  refine s_xt rfl rfl rfl ?_
  refine s_xt rfl rfl rfl ?_
  refine y_al hI3 Tryz.zeroValue48 rfl rfl (fun b7 w4 hI4 a4 => ?_)
  refine y_st 0 hI4 rfl rfl rfl rfl Tryz.sizeOf48 rfl rfl (one1 rfl (one1 (RdS.oneC g1) (one1 (RdS.oneC g2) (one1 rfl (one1 (RdS.oneC g4) one0))))) (fun w5 hI5 a5 => ?_)
  have a35 := a4.trans a5
  refine s_as rfl rfl ?_
  refine Reg.nil ?_
  refine cw_seq ?_
  refine cw_seq ?_
  refine cw_regF ?_
  refine s_mv rfl rfl ?_
  refine s_neq rfl rfl rfl ?_
  refine Reg.nil ?_
  refine cw_cond rfl (fun hc => ?_) (fun hc => ?_)
  · have hne : ¬ S.err m x = 0 := nd_true hc
    have hrr : (r0, r1, r2) = ([], [], S.err m x) := by rw [← hr]; unfold S.reasonsS; rw [if_neg hne]
    obtain ⟨e0, hrr2⟩ := Prod.mk.inj hrr
    obtain ⟨e1, e2⟩ := Prod.mk.inj hrr2
    subst e0 e1 e2
    refine cw_seq ?_
    refine cw_regF ?_
    refine s_mv rfl rfl ?_
    refine s_as rfl rfl ?_
    refine y_st 1 hI5 rfl rfl rfl rfl Tryz.sizeOf26 rfl rfl (one1 rfl one0) (fun w6 hI6 a6 => ?_)
    refine s_as rfl rfl ?_
    refine Reg.nil ?_
    refine cw_ret ?_
    refine fin_any Tryz.results6 (AllRs.cons (RsOk.tmp rfl) (AllRs.cons (RsOk.one rfl ((hI6.row 1 rfl).rd.cells.at 0 rfl) Tryz.isAgg26) (AllRs.cons (RsOk.tmp rfl) (AllRs.nil)))) rfl ?_
    exact ⟨_, _, rfl, RdS.nil _ _ _, RdS.nil _ _ _, g5, hI6.kp⟩
  · have h0 : S.err m x = 0 := nd_false hc
    have hok : S.modelOk m = true := by
      unfold S.err at h0
      split at h0
      · assumption
      · cases h0
    have hv : S.valuesOk m x = true := by
      unfold S.err at h0
      rw [if_pos hok] at h0
      split at h0
      · assumption
      · cases h0
    have hw : S.worksOf m = Works.mk m (S.partsOf m) := by unfold S.worksOf; rw [if_pos hok]
    simp only [hw] at g0 g1 g2 g3 g4 hI5 a35
    have hlen : (x.length : Int) = m.traits := (S.valuesOk_iff.1 hv).1
    have hx5 : x.length ≤ 5 := by have := S.modelOk_iff.1 hok; omega
    refine cw_skip ?_
    refine cw_seq ?_
    refine cw_regSea [0, 1, 2, 3, 4] [5, 6] [] [6] [[6, 0], [6, 1], [6, 3], [6, 4]] [] fol (by kernel_rfl) rfl (by kernel_rfl) rfl rfl ?_
    refine s_lda rfl (hI5.row 0 rfl).rd.cells Tryz.isAgg48 rfl Tryz.sizeOf48 rfl ?_
    refine s_lda rfl (hI5.row 0 rfl).rd.cells Tryz.isAgg48 rfl Tryz.sizeOf48 rfl ?_
    refine s_mv rfl rfl ?_
    refine s_callq rfl rfl Tryz.call12 rfl (fun w9 e9 => (C_score_works_score (w_ := Works.mk m (S.partsOf m)) ((hI5.ext e9).mlt) g0 (g1.adv (a35.trans (Adv.of_ext e9))) (g2.adv (a35.trans (Adv.of_ext e9))) g3 (g4.adv (a35.trans (Adv.of_ext e9))) (f_x_0.adv (hI5.adv.trans (Adv.of_ext e9))) (S.p_worksScore m x hok hv)).mono (fun _ _ hq => ⟨hq.1, hq.2.2⟩)) ?_
    refine s_callq rfl rfl Tryz.call11 rfl (fun w9 e9 => (C_score_works_enough (w_ := Works.mk m (S.partsOf m)) ((hI5.ext e9).mlt) g0 (g1.adv (a35.trans (Adv.of_ext e9))) (g2.adv (a35.trans (Adv.of_ext e9))) g3 (g4.adv (a35.trans (Adv.of_ext e9))) (score_in hok hv) (p_enough hok)).mono (fun _ _ hq => ⟨hq.1, hq.2⟩)) ?_
    refine Reg.nilX ⟨rfl, rfl, rfl, ?_⟩
    intro w6 ex6
    have hI6 := hI5.ext ex6
    refine SeaWalk.step [5] (by kernel_rfl) (AllL.cons ?_ AllL.nil)
    refine ⟨_, [], rfl, RSub.nil, rfl, nodupB_spec rfl, ?_⟩
    simp only [relOut]
    have hS6 := (Hp.start (Mu := []) hI5.mlt).ext ex6
    refine y_al hS6 Tryz.zeroValue4 rfl rfl (fun b8 w7 hS7 a7 => ?_)
    refine Reg.nil ⟨rfl, .inr hS7.kp, rfl, ?_⟩
    intro w8 ex8
    have hI8 := (hI5.join hS7).ext ex8
    refine SeaWalk.step [6] (by kernel_rfl) (AllL.cons ?_ AllL.nil)
    refine ⟨_, [], rfl, RSub.nil, rfl, nodupB_spec rfl, ?_⟩
    simp only [relOut]
    refine y_st 0 hI8 rfl rfl rfl rfl Tryz.sizeOf4 rfl rfl (one1 rfl one0) (fun w9 hI9 a9 => ?_)
    refine Reg.nil ⟨rfl, .inl rfl, rfl, ?_⟩
    intro w10 ex10
    have hI10 := hI9.ext ex10
    refine SeaWalk.done ?_
    refine cw_seq ?_
    refine cw_label ?_
    refine cw_seq ?_
    refine cw_seq ?_
    refine cw_regF ?_
    have hI11 : Hp w [] M [rowR 4 b8 [.bool (S.enB m (S.score m x))], rowR 48 b7 [.int .i64 m.traits, v1, v2, .int .i64 m.need, v4], valR b5 (.slice none 0 0) [], rowR 25 b2 [.int .i64 m.traits, v_m_1, v_m_2, .int .i64 m.need]] w10 :=
      hI10.upd2 (r' := valR b5 (.slice none 0 0) []) 2 rfl (Kp.refl _ _) (fun b hb => .inl (by simpa [valR, rowR, ob] using hb)) rfl fun M' _ => ⟨hI10.row 2 rfl, Own.nil _ _ _ _ _, by simp [ob]⟩
    have a11 : Adv (mm [rowR 26 b5 [.slice none 0 0], rowR 25 b2 [.int .i64 m.traits, v_m_1, v_m_2, .int .i64 m.need]] M) (mm [rowR 4 b8 [.bool (S.enB m (S.score m x))], rowR 48 b7 [.int .i64 m.traits, v1, v2, .int .i64 m.need, v4], valR b5 (.slice none 0 0) [], rowR 25 b2 [.int .i64 m.traits, v_m_1, v_m_2, .int .i64 m.need]] M) w3 w10 :=
      ((((a35.trans (Adv.of_ext ex6)).trans a7).trans (Adv.of_ext ex8)).trans (a9.trans (Adv.of_ext ex10))).trans (Adv.drop fun b hb => by
        rcases mem_mm.1 hb with ⟨r, hr, hb⟩ | hb
        · refine mem_mm.2 (.inl ?_)
          simp only [List.mem_cons, List.not_mem_nil, or_false] at hr
          rcases hr with rfl | rfl | rfl | rfl
          · exact ⟨_, List.mem_of_getElem? (i := 0) rfl, hb⟩
          · exact ⟨_, List.mem_of_getElem? (i := 1) rfl, hb⟩
          · exact ⟨_, List.mem_of_getElem? (i := 2) rfl, by simpa [valR, rowR, ob] using hb⟩
          · exact ⟨_, List.mem_of_getElem? (i := 3) rfl, hb⟩
        · exact mem_mm.2 (.inr hb))
    refine s_fa rfl Tryz.underlying25 rfl Tryz.sizeOf3 rfl ?_
    refine s_ld rfl ((hI11.row 3 rfl).rd.cells.at 0 rfl) Tryz.isAgg3 rfl ?_
    refine s_call rfl Tryz.call13 rfl ?_
    replace hsets := hsets h0
    rw [hlen] at hsets
    refine (C_score_sets hI11.mlt f_m_0 hsets).mono ?_
    rintro _ w12 ⟨vs, rfl, hos, ex12⟩
    refine ⟨_, rfl, ?_⟩
    have hI12 := hI11.ext ex12
    have a12 := a11.trans (Adv.of_ext ex12)
    have hrd : RdS (sliceE (intE .i64)) (mm [rowR 4 b8 [.bool (S.enB m (S.score m x))], rowR 48 b7 [.int .i64 m.traits, v1, v2, .int .i64 m.need, v4], valR b5 (.slice none 0 0) [], rowR 25 b2 [.int .i64 m.traits, v_m_1, v_m_2, .int .i64 m.need]] M) w12 vs (S.setsS x.length) := hos.1.rd fun b hb hb' => by
      have h1 := hos.2 b hb
      have h2 := hI11.mlt b hb'
      omega
    have hsl := S.setsS_len hx5
    refine s_len rfl hrd Tryz.underlying53 rfl ?_
    refine s_mv rfl rfl ?_
    refine Reg.nil ?_
    refine cw_block ?_
    refine cw_loop (fun i : Nat => [(33, .int .i64 (i : Int)), (32, .int .i64 ((S.setsS x.length).length : Int)), (31, vs), (8, .pointer (some ⟨b8, 0, none⟩)), (7, .pointer (some ⟨b7, 0, none⟩)), (5, .pointer (some ⟨b5, 0, none⟩)), (4, .slice none 0 0), (2, .pointer (some ⟨b2, 0, none⟩)), (1, v_x_0)])
      (fun i W => i ≤ (S.setsS x.length).length ∧ (∀ l ∈ (S.setsS x.length).take i, (S.tryR m x l).1 = false) ∧ ∃ u, Hp w [] M [rowR 4 b8 [.bool (S.enB m (S.score m x))], rowR 48 b7 [.int .i64 m.traits, v1, v2, .int .i64 m.need, v4], valR b5 u [], rowR 25 b2 [.int .i64 m.traits, v_m_1, v_m_2, .int .i64 m.need]] W ∧ Adv (mm [rowR 4 b8 [.bool (S.enB m (S.score m x))], rowR 48 b7 [.int .i64 m.traits, v1, v2, .int .i64 m.need, v4], valR b5 (.slice none 0 0) [], rowR 25 b2 [.int .i64 m.traits, v_m_1, v_m_2, .int .i64 m.need]] M) (mm [rowR 4 b8 [.bool (S.enB m (S.score m x))], rowR 48 b7 [.int .i64 m.traits, v1, v2, .int .i64 m.need, v4], valR b5 u [], rowR 25 b2 [.int .i64 m.traits, v_m_1, v_m_2, .int .i64 m.need]] M) w12 W)
      (fun i => (S.setsS x.length).length - i) 0 ⟨Nat.zero_le _, (by simp), _, hI12, Adv.refl _ _⟩ (Sub.cons rfl (Sub.cons rfl (Sub.cons rfl (Sub.cons rfl (Sub.cons rfl (Sub.cons rfl (Sub.cons rfl (Sub.cons rfl (Sub.cons rfl (Sub.nil _)))))))))) ?_
    rintro i W ⟨hi, hnone, u, hIW, aW⟩
    refine cw_seq ?_
    refine cw_regF ?_
    refine s_lss rfl rfl rfl ?_
    refine Reg.nil ?_
    refine cw_seq ?_
    refine cw_cond rfl (fun hc3 => ?_) (fun hc3 => ?_)
    · have hlt : i < (S.setsS x.length).length := by have := of_decide_eq_true hc3; omega
      obtain ⟨l, hl⟩ : ∃ l, l = (S.setsS x.length)[i] := ⟨_, rfl⟩
      have hy : (S.setsS x.length)[i]? = some l := by rw [hl]; exact List.getElem?_eq_getElem hlt
      obtain ⟨hl1, hl2, hl3⟩ := S.setsS_mem (List.mem_of_getElem? hy)
      refine cw_skip ?_
      refine cw_seq ?_
      refine cw_block ?_
      refine cw_seq ?_
      refine cw_regF ?_
      refine p_ia rfl rfl (hrd.adv aW) (ixo_at hy) Tryz.underlying53 Tryz.sizeOf26 rfl (fun gb go cs hR hC => ?_)
      obtain ⟨vl, rfl, hvl⟩ := sliceE_R.1 hR
      refine s_ld rfl (hC.cells.at 0 rfl) Tryz.isAgg26 rfl ?_
      refine y_al hIW Tryz.zeroValue26 rfl rfl (fun b10 w13 hI13 a13 => ?_)
      refine y_st 0 hI13 rfl rfl rfl (RdS.cells1 hvl) Tryz.sizeOf26 rfl rfl (one1 (RdS.oneC hvl) one0) (fun w14 hI14 a14 => ?_)
      refine Reg.nil ?_
      refine cw_seq ?_
      refine cw_regF ?_
      refine y_mkm SpanE true .i64 hI14 rfl (fun bm w15 hI15 a15 => ?_)
      refine s_as rfl rfl ?_
      refine Reg.nil ?_
      have aL := (a13.trans a14).trans a15
      refine cw_seq ?_
      refine cw_seq ?_
      refine cw_regF ?_
      refine s_ld rfl ((hI15.row 1 rfl).rd.cells.at 0 rfl) Tryz.isAgg26 rfl ?_
      refine s_len rfl (hvl.adv aL) Tryz.underlying26 rfl ?_
      refine s_mv rfl rfl ?_
      refine Reg.nil ?_
      refine cw_block ?_
      refine cw_loop (fun j : Nat => [(40, .int .i64 (j : Int)), (39, .int .i64 (l.length : Int)), (38, vl), (33, .int .i64 (i : Int)), (32, .int .i64 ((S.setsS x.length).length : Int)), (31, vs), (11, .map (some bm)), (10, .pointer (some ⟨b10, 0, none⟩)), (8, .pointer (some ⟨b8, 0, none⟩)), (7, .pointer (some ⟨b7, 0, none⟩)), (5, .pointer (some ⟨b5, 0, none⟩)), (4, .slice none 0 0), (2, .pointer (some ⟨b2, 0, none⟩)), (1, v_x_0)])
        (fun j W2 => j ≤ l.length ∧ Hp w [] M (mapR SpanE true .i64 bm (S.spansOf l j) :: rowR 26 b10 [vl] :: [rowR 4 b8 [.bool (S.enB m (S.score m x))], rowR 48 b7 [.int .i64 m.traits, v1, v2, .int .i64 m.need, v4], valR b5 u [], rowR 25 b2 [.int .i64 m.traits, v_m_1, v_m_2, .int .i64 m.need]]) W2 ∧ Adv (mm [rowR 4 b8 [.bool (S.enB m (S.score m x))], rowR 48 b7 [.int .i64 m.traits, v1, v2, .int .i64 m.need, v4], valR b5 u [], rowR 25 b2 [.int .i64 m.traits, v_m_1, v_m_2, .int .i64 m.need]] M) (mm (mapR SpanE true .i64 bm (S.spansOf l j) :: rowR 26 b10 [vl] :: [rowR 4 b8 [.bool (S.enB m (S.score m x))], rowR 48 b7 [.int .i64 m.traits, v1, v2, .int .i64 m.need, v4], valR b5 u [], rowR 25 b2 [.int .i64 m.traits, v_m_1, v_m_2, .int .i64 m.need]]) M) W W2)
        (fun j => l.length - j) 0 ⟨Nat.zero_le _, hI15, aL⟩ (Sub.cons rfl (Sub.cons rfl (Sub.cons rfl (Sub.cons rfl (Sub.cons rfl (Sub.cons rfl (Sub.cons rfl (Sub.cons rfl (Sub.cons rfl (Sub.cons rfl (Sub.cons rfl (Sub.cons rfl (Sub.cons rfl (Sub.cons rfl (Sub.nil _))))))))))))))) ?_
      rintro j W2 ⟨hj, hI16, aW2⟩
      refine cw_seq ?_
      refine cw_regF ?_
      refine s_lss rfl rfl rfl ?_
      refine Reg.nil ?_
      refine cw_seq ?_
      refine cw_cond rfl (fun hc4 => ?_) (fun hc4 => ?_)
      · have hjt : j < l.length := by have := of_decide_eq_true hc4; omega
        have hyj : l[j]? = some l[j] := List.getElem?_eq_getElem hjt
        refine cw_skip ?_
        refine cw_seq ?_
        refine cw_block ?_
        refine cw_seq ?_
        refine cw_regF ?_
        refine p_ia rfl rfl (hvl.adv aW2) (ixo_at hyj) Tryz.underlying26 Tryz.sizeOf3 rfl (fun gb2 go2 cs2 hR2 hC2 => ?_)
        obtain ⟨rfl, hlji⟩ := intE_R.1 hR2
        refine s_ld rfl (hC2.cells.at 0 rfl) Tryz.isAgg3 rfl ?_
        refine s_as rfl rfl ?_
        refine Reg.nil ?_
        refine cw_regF ?_
        refine s_mv rfl rfl ?_
        refine s_mv rfl rfl ?_
        refine s_bd [(0, 1), (1, 1)] Tryz.zeroValue57 rfl Tryz.underlying57 (fun _ => by simp [Tryz.sizeOf3]) rfl (Cls.cons rfl Cls.nil) rfl rfl ?_
        refine y_mup 0 (z := S.whole) hI16 rfl rfl rfl rfl ⟨_, SpanE_R.2 ⟨rfl, by decide, by decide⟩, .inl ⟨rfl, rfl⟩⟩ Tryz.underlying55 Tryz.underlying3 (fun w17 hI17 a17 => ?_)
        refine Reg.nil ?_
        refine cw_regF ?_
        refine p_add rfl rfl rfl (n := ((j + 1 : Nat) : Int)) ⟨by omega, by rw [InK.i64]; omega⟩ ?_
        refine s_mv rfl rfl ?_
        have a18 := aW2.trans a17
        refine Reg.nil ⟨rfl, j + 1, ⟨hjt, ?_, ?_⟩, Sub.cons rfl (Sub.cons rfl (Sub.cons rfl (Sub.cons rfl (Sub.cons rfl (Sub.cons rfl (Sub.cons rfl (Sub.cons rfl (Sub.cons rfl (Sub.cons rfl (Sub.cons rfl (Sub.cons rfl (Sub.cons rfl (Sub.cons rfl (Sub.nil _)))))))))))))), by omega⟩
        · rw [← S.spansOf_succ hyj]; exact hI17
        · rw [← S.spansOf_succ hyj]; exact a18
      · have hje : j = l.length := by have := of_decide_eq_false hc4; omega
        subst hje
        refine cw_exit ?_
        refine exB_same ?_
        have hM2 : MLt ((b5 :: ob u) ++ M) W2 := fun b hb => hI16.mlt b (subV 4 rfl b hb)
        have aF := (a12.trans (aW.trans aW2)).trans (Adv.drop (subV 4 rfl))
        have hval := hI16.get 4 rfl
        refine cw_seq ?_
        refine cw_regF ?_
        refine s_lda rfl (hI16.row 3 rfl).rd.cells Tryz.isAgg48 rfl Tryz.sizeOf48 rfl ?_
        refine s_mv rfl rfl ?_
        refine s_mv rfl rfl ?_
        refine s_mf rfl rfl ?_
        refine s_call rfl Tryz.call14 rfl ?_
        have hso := reasons1 (wk := Works.mk m (S.partsOf m)) (n := x.length) (D := fun y => S.valuesOk m y = true) (sc := S.score m) (en := fun y => S.enB m (S.score m y)) (yes := S.enB m (S.score m x)) (bv := b5) g0 (g1.adv aF) (g2.adv aF) g3 (g4.adv aF) ((hI16.freezeRow 3 rfl).adv (Adv.drop (subV 3 rfl))) ((hI16.freezeRow 2 rfl).adv (Adv.drop (subV 3 rfl))) ((hI16.freezeRow 1 rfl).adv (Adv.drop (subV 3 rfl))) ((hvl.adv aW2).adv (Adv.drop (subV 4 rfl)))
          hl1 (by omega) (S.values_in hlen) (fun y hy => ⟨S.p_worksScore m y hok hy, score_in hok hy⟩) (fun y hy => p_enough hok)
        refine (try_ok (heldV b5) (wk := Works.mk m (S.partsOf m)) (lists := S.listsR m l) (D := fun y => S.valuesOk m y = true) (G := fun s => s = []) (so := S.soR m (S.enB m (S.score m x)) l) (fp := b5 :: ob u) (s := []) x.length hlen.symm (S.values_in hlen) S.listsR_set (soR_G m _ l) (S.listsR_ok hok hlen) (by omega)
          hM2 g0 (g1.adv aF) (g2.adv aF) g3 (g4.adv aF) (f_x_0.adv (hI16.adv.trans (Adv.drop (subV 4 rfl)))) ((hI16.mapRd 0 rfl).adv (Adv.drop (subV 3 rfl))) ⟨rfl, rfl⟩ hso ⟨u, rfl, hval.1, hval.2.1, hval.2.2⟩ (fun c hc => List.mem_append_left _ hc) rfl hv).mono ?_
        rintro _ w19 ⟨rfl, hk19, fp19, ⟨u2, rfl, hr19, ho19, hn19⟩, hg19⟩
        refine ⟨_, rfl, ?_⟩
        refine s_as rfl rfl ?_
        refine Reg.nil ?_
        have hI19 := hI16.upd2 (r' := valR b5 u2 (S.tryR m x l).2) 4 rfl hk19 hg19 rfl fun M' _ => ⟨hr19, ho19, hn19⟩
        have a19 := hI16.updA (r' := valR b5 u2 (S.tryR m x l).2) 4 rfl hk19 hg19
        refine cw_seq ?_
        refine cw_regF ?_
        refine s_mv rfl rfl ?_
        refine Reg.nil ?_
        refine cw_cond rfl (fun hc5 => ?_) (fun hc5 => ?_)
        · have hfound : (S.tryR m x l).1 = true := hc5
          have hfind : (S.setsS x.length).find? (fun l => (S.tryR m x l).1) = some l := by
            rw [List.find?_eq_some_iff_getElem]
            refine ⟨hfound, i, hlt, hl.symm, fun j hj => ?_⟩
            have := hnone (S.setsS x.length)[j] (List.mem_of_getElem? (i := j) (by rw [List.getElem?_take, if_pos hj]; exact List.getElem?_eq_getElem (by omega)))
            simp [this]
          have hrr : (r0, r1, r2) = (l, (S.tryR m x l).2, 0) := by rw [← hr]; unfold S.reasonsS; rw [if_pos h0, hfind]
          obtain ⟨e0, hrr2⟩ := Prod.mk.inj hrr
          obtain ⟨e1, e2⟩ := Prod.mk.inj hrr2
          subst e0 e1 e2
          refine cw_seq ?_
          refine cw_regF ?_
          refine s_ld rfl ((hI19.row 1 rfl).rd.cells.at 0 rfl) Tryz.isAgg26 rfl ?_
          refine s_as rfl rfl ?_
          refine Reg.nil ?_
          refine cw_exit ?_
          refine exB_other rfl ?_
          refine exB_same ?_
          have hvl19 := (hvl.adv aW2).adv a19
          refine cw_seq ?_
          refine cw_seq ?_
          refine cw_regF ?_
          refine s_mv rfl rfl ?_
          refine s_eqFull hvl19 hl3 rfl rfl Tryz.underlying26 rfl ?_
          refine Reg.nil ?_
          refine cw_condF rfl ?_
          refine cw_skip ?_
          refine cw_seq ?_
          refine cw_regSea [0, 1, 2] [3, 4] [] [3] [[3, 1]] [] fol (by kernel_rfl) rfl (by kernel_rfl) rfl rfl ?_
          refine s_mv rfl rfl ?_
          refine s_ld rfl (hr19.rd.cells.at 0 rfl) Tryz.isAgg26 rfl ?_
          refine s_as rfl rfl ?_
          refine Reg.nilX ⟨rfl, rfl, rfl, ?_⟩
          intro w20 ex20
          refine SeaWalk.step [3] (by kernel_rfl) (AllL.cons ?_ AllL.nil)
          refine ⟨_, [], rfl, RSub.nil, rfl, nodupB_spec rfl, ?_⟩
          simp only [relOut]
          refine s_st rfl rfl (Own.cells1 ho19) (hr19.kp ex20 (by simp)) Tryz.sizeOf26 rfl rfl (one1 (Own.oneC ho19) one0) (fun w21 hr21 hk21 => ?_)
          refine Reg.nil ⟨rfl, .inl rfl, rfl, ?_⟩
          intro w22 ex22
          refine SeaWalk.step [4] (by kernel_rfl) (AllL.cons ?_ AllL.nil)
          refine ⟨_, [], rfl, RSub.nil, rfl, nodupB_spec rfl, ?_⟩
          simp only [relOut]
          refine s_as rfl rfl ?_
          refine Reg.nil ⟨rfl, .inl rfl, rfl, ?_⟩
          intro w23 ex23
          refine SeaWalk.done ?_
          refine cw_ret ?_
          have hr23 : Row 26 w23 b5 [u2] := ((show Row 26 w21 b5 [u2] from hr21).kp ex22 (by simp)).kp ex23 (by simp)
          have hk2023 : Kp [b5] w20 w23 := (hk21.trans (Ext.kp ex22)).trans (Ext.kp ex23)
          have hk1923 : Kp [b5] w19 w23 := (Ext.kp ex20).trans hk2023
          have hb5 : b5 ∈ mm ((mapR SpanE true .i64 bm (S.spansOf r0 r0.length) :: rowR 26 b10 [vl] :: [rowR 4 b8 [.bool (S.enB m (S.score m x))], rowR 48 b7 [.int .i64 m.traits, v1, v2, .int .i64 m.need, v4], valR b5 u [], rowR 25 b2 [.int .i64 m.traits, v_m_1, v_m_2, .int .i64 m.need]]).set 4 (valR b5 u2 (S.tryR m x r0).2)) M := subV 4 rfl b5 (List.mem_append_left _ (List.mem_cons_self ..))
          have hn5 : w.heap.size ≤ b5 := ((hI19.own _ (List.mem_of_getElem? (i := 4) rfl)).2 b5 (List.mem_cons_self ..)).elim (fun h => by cases h) id
          refine fin_any Tryz.results6 (AllRs.cons (RsOk.tmp rfl) (AllRs.cons (RsOk.one rfl (hr23.rd.cells.at 0 rfl) Tryz.isAgg26) (AllRs.cons (RsOk.tmp rfl) (AllRs.nil)))) rfl ?_
          refine ⟨_, _, rfl, (hvl19.adv (Adv.write hk1923 hb5)).adv (Adv.drop fun b hb => mem_mm.2 (.inr hb)), ?_, (by decide), hI19.kp.tail hk1923 fun c hc => .inr ?_⟩
          · refine (ho19.int (M' := M) fun b hb => hk1923.block b (by obtain ⟨_, _, _, h2⟩ := ho19.isCells b hb; exact heap_lt h2) fun h => ?_).rd fun b hb => hI19.sepM _ (List.mem_of_getElem? (i := 4) rfl) b (List.mem_cons_of_mem _ hb)
            have : b = b5 := by simpa using h
            subst this; exact hn19 hb
          · have : c = b5 := by simpa using hc
            subst this; exact hn5
        · have hnf : (S.tryR m x l).1 = false := hc5
          have hnil : (S.tryR m x l).2 = [] := onS_G (D := fun y => S.valuesOk m y = true) (G := fun s => s = []) (soR_G m _ l) S.listsR_set x.length 0 x [] hv rfl hnf
          rw [hnil] at hI19 a19
          have hI20 := hI19.dropN 2
          have a20 := (aW.trans (aW2.trans a19)).trans (Hp.dropA 2)
          refine cw_skip ?_
          refine cw_regF ?_
          refine p_add rfl rfl rfl (n := ((i + 1 : Nat) : Int)) ⟨by omega, by rw [InK.i64]; omega⟩ ?_
          refine s_mv rfl rfl ?_
          refine Reg.nil ⟨rfl, i + 1, ⟨hlt, fun l' hl' => ?_, u2, hI20, a20⟩, Sub.cons rfl (Sub.cons rfl (Sub.cons rfl (Sub.cons rfl (Sub.cons rfl (Sub.cons rfl (Sub.cons rfl (Sub.cons rfl (Sub.cons rfl (Sub.nil _))))))))), by omega⟩
          rw [List.take_add_one, hy] at hl'
          rcases List.mem_append.1 hl' with h | h
          · exact hnone l' h
          · have : l' = l := by simpa using h
            rw [this]; exact hnf
    · have hie : i = (S.setsS x.length).length := by have := of_decide_eq_false hc3; omega
      subst hie
      have hfind : (S.setsS x.length).find? (fun l => (S.tryR m x l).1) = none := by
        rw [List.find?_eq_none]
        intro l hl
        rw [hnone l (by rw [List.take_length]; exact hl)]; simp
      have hrr : (r0, r1, r2) = ([], [], 6) := by rw [← hr]; unfold S.reasonsS; rw [if_pos h0, hfind]
      obtain ⟨e0, hrr2⟩ := Prod.mk.inj hrr
      obtain ⟨e1, e2⟩ := Prod.mk.inj hrr2
      subst e0 e1 e2
      have hval := hIW.get 2 rfl
      have hn5 : w.heap.size ≤ b5 := ((hIW.own _ (List.mem_of_getElem? (i := 2) rfl)).2 b5 (List.mem_cons_self ..)).elim (fun h => by cases h) id
      refine cw_exit ?_
      refine exB_same ?_
      refine cw_seq ?_
      refine cw_seq ?_
      refine cw_regF ?_
      refine s_mv rfl rfl ?_
      refine s_eqNil rfl rfl Tryz.underlying26 rfl ?_
      refine Reg.nil ?_
      refine cw_condT rfl ?_
      refine cw_seq ?_
      refine cw_regF ?_
      refine s_as rfl rfl ?_
      refine s_st rfl rfl rfl hval.1 Tryz.sizeOf26 rfl rfl (one1 rfl one0) (fun w13 hr13 hk13 => ?_)
      refine s_as rfl rfl ?_
      refine Reg.nil ?_
      refine cw_ret ?_
      refine fin_any Tryz.results6 (AllRs.cons (RsOk.tmp rfl) (AllRs.cons (RsOk.one rfl (hr13.rd.cells.at 0 rfl) Tryz.isAgg26) (AllRs.cons (RsOk.tmp rfl) (AllRs.nil)))) rfl ?_
      refine ⟨_, _, rfl, RdS.nil _ _ _, RdS.nil _ _ _, (by decide), hIW.kp.tail hk13 fun c hc => .inr ?_⟩
      have : c = b5 := by simpa using hc
      subst this; exact hn5
end Go.Proofs.YtecmlmngcnionaaGreat
