/-
  Part 7 of the texts that the statement's proof stands on: what memory holds, how code is walked, what the functions reckon. In the order in which they build.
-/
import Derived.RangeFuncLeaves
import Derived.RangeFuncNested
import Derived.TacticsIn
import Derived.Test.YtecmlmngcnionaaProg
import Derived.RangeFuncBox
import Derived.Shelf.Abstract
import Derived.WalkKit
import Derived.OwnWalkIn
import Derived.TacticsInMore
import Derived.LoopNIn
import Derived.LoopIn
import Derived.Scope
import Derived.Test.YtecmlmngcnionaaSe6
set_option linter.unusedVariables false
namespace Go.Sx
open Go Go.RowKit
/-- A function's end, where a range over a function may have left its mark. -/
def FinM (P : Program) (fn : Func) (R : Ending → World → Prop) (ds : List Deferred) (L : Env) (w : World) : Prop :=
  (ds = [] ∧ ∃ v, (∀ a, Knows fn.ntmps ds L a → (results fn a.tmps).run P w = .ok v w) ∧ R (.returned v) w) ∨
  ∃ D w', ds = [{ target := .collected D, args := #[] }] ∧ (Instr.takeDeferred D).run P w = .ok [] w' ∧ ∃ v, (∀ a, Knows fn.ntmps ds L a → (results fn a.tmps).run P w' = .ok v w') ∧ R (.returned v) w'
theorem FinM.of {P : Program} {fn : Func} {R : Ending → World → Prop} {ds : List Deferred} {L : Env} {w : World} (h : FinR P fn R ds L w) : FinM P fn R ds L w := .inl h
theorem calls_cwM {P : Program} {f : FuncId} {fn : Func} {c : Code} {l : List Value} {w : World} {R : Ending → World → Prop} {N : Nat}
    (hf : P.funcs[f]? = some fn) (hb : fn.body = some c) (hN : fn.ntmps = N) (hl : Nat.ble l.length N = true)
    (h : CW P N c [] (argEnv 0 l) w (FinM P fn R) (FinM P fn R) NoX NoZ) : Calls P f l.toArray w R := by
  subst hN
  refine (callsIn_wide (n := 3)).1 (callsIn_of_wp_marks hf hb trivial (wpIn_wide.2 (wp_mono (h _ ⟨?_, rfl, ?_⟩) ?_)) rfl)
  · have : l.length ≤ fn.ntmps := Nat.le_of_ble_eq_true hl
    simp; omega
  · intro t v ht
    obtain ⟨j, rfl, hj⟩ := look_argEnv l 0 t v ht
    have hlt : j < l.length := by
      rcases Nat.lt_or_ge j l.length with h | h
      · exact h
      · simp [List.getElem?_eq_none h] at hj
    simp only [Nat.zero_add]
    rw [Array.getElem?_append_left (by simpa using hlt)]
    simpa using hj
  · intro e a w' hq
    have fin : ∀ ds L, Knows fn.ntmps ds L a → FinM P fn R ds L w' → LeavesInM Fence.wide 3 P fn a.tmps R a.defers .returning w' := fun ds L ha hF => by
      rcases hF with ⟨rfl, v, hv, hR⟩ | ⟨D, w2, rfl, ht, v, hv, hR⟩
      · rw [ha.defers]; exact ⟨v, hv a ha, hR⟩
      · rw [ha.defers]; exact ⟨by simp, .inl ⟨D, w2, rfl, ht, ⟨v, hv a ha, hR⟩⟩⟩
    cases e with
    | normal => obtain ⟨ds, L, ha, hF⟩ := hq; exact fin ds L ha hF
    | ret => obtain ⟨ds, L, ha, hF⟩ := hq; exact fin ds L ha hF
    | panic ch => obtain ⟨ds, L, ha, hF⟩ := hq; exact hF.elim
    | exit i => obtain ⟨ds, L, ha, hx⟩ := hq; exact hx.elim
    | goto l => exact hq.elim
    | outgrown => exact hq.elim
/-- A map that is read: from numbers. -/
def RdM {α : Type} (E : Enc α) (ag : Bool) (k : IntKind) (M : List Nat) (w : World) (b : Nat) (xs : List (Int × α)) : Prop :=
  b ∉ M ∧ b < w.heap.size ∧ ∃ es c, w.heap[b]? = some (.map es c) ∧ EntR E ag k M w es.toList xs
theorem RdM.adv {α : Type} {E : Enc α} {ag : Bool} {k : IntKind} {M M' : List Nat} {w w' : World} {b : Nat} {xs : List (Int × α)} (h : RdM E ag k M w b xs) (ha : Adv M M' w w') : RdM E ag k M' w' b xs := by
  obtain ⟨h1, h2, es, c, h3, h4⟩ := h
  exact ⟨fun hb => (ha.new b hb).elim h1 (fun h => absurd h2 (by omega)), Nat.lt_of_lt_of_le h2 ha.kp.size, es, c, (ha.kp.block b h2 h1).trans h3, h4.adv ha⟩
theorem Hp.mapRd {α : Type} {E : Enc α} {ag : Bool} {k : IntKind} {b : Nat} {xs : List (Int × α)} {w w0 : World} {Mu M : List Nat} {σ : List Res} (h : Hp w0 Mu M σ w) (i : Nat) (hi : σ[i]? = some (mapR E ag k b xs)) : RdM E ag k (mm (σ.eraseIdx i) M) w b xs := by
  obtain ⟨es, c, h1, h2⟩ := h.mapAt i hi
  have hb : b ∈ (mapR E ag k b xs).fp := by simp [mapR]
  exact ⟨h.apart i hi b hb, heap_lt h1, es, c, h1, h2.mon fun x hx => .inl (mm_sub (List.eraseIdx_sublist σ i) hx)⟩
/-- Asked for in a map that is read. -/
theorem s_mlk {P : Program} {N : Nat} {ops : Array Oper} {rest : List Oper} {ds : List Deferred} {L : Env} {w : World} {A B : Out} {X : Nat → Out} {Z : List PanicEntry → Out} {d : Nat} {ty : TypeId} {pos : String} {af : Array Edge} {M : List Nat} {α : Type} {E : Enc α} {ag : Bool} {k k' : IntKind} {b : Nat} {xs : List (Int × α)} {z0 : α} {zv : Value} {x y : Operand} {t kt e : TypeId} {key : Int}
    (hm : RdM E ag k M w b xs) (hx : ev L x = some (.map (some b))) (hy : ev L y = some (.int k key)) (ht : P.underlying t = some (.map kt e)) (hk : P.underlying kt = some (.int k')) (hz : ∀ w, (zeroValue e).run P w = .ok zv w) (hzR : Vl E ag M w zv z0) (hN : Nat.blt d N = true)
    (h : ∀ v, Vl E ag M w v ((mget xs key).getD z0) → Reg P N ops .seq rest ds ((d, .tuple #[v, .bool (mget xs key).isSome]) :: L) w A B X Z) :
    Reg P N ops .seq (⟨some d, .lookup t x y true, ty, pos, af, none⟩ :: rest) ds L w A B X Z := by
  obtain ⟨_, _, es, c, h1, h2⟩ := hm
  have hck : ∀ em w, (Instr.checkKey em 10000 kt (.int k key)).run P w = .ok () w := fun em w => check_int (n := 9999) hk
  rcases EntR.find (k' := k') (key := key) 0 h2 with ⟨g1, g2, _⟩ | ⟨j, e', y', g1, g2, g3, _⟩
  · have h' := h zv (by rw [g2]; exact hzR)
    rw [g2] at h'
    refine Reg.eff _ w rfl rfl hN (fun a ha => ?_) h'
    simp [execOp, ha.eval hx, ha.eval hy, Instr.lookup, run_underlying ht, MapKept.run_getObj_map h1, hck, Instr.findKey, run_underlying hk, g1, hz]
  · have h' := h e'.val (by rw [g2]; exact g3)
    rw [g2] at h'
    refine Reg.eff _ w rfl rfl hN (fun a ha => ?_) h'
    simp [execOp, ha.eval hx, ha.eval hy, Instr.lookup, run_underlying ht, MapKept.run_getObj_map h1, hck, Instr.findKey, run_underlying hk, g1]
end Go.Sx
namespace Go.Sx
open Go Go.RowKit
/-- Nothing is fenced; code runs in a round of loop l. -/
def FW (l : Nat) : Fence := Fence.wide.inRound l
theorem callsIn_FW {l n : Nat} {P : Program} {f : FuncId} {args : Array Value} {w : World} {R : Ending → World → Prop} (h : Calls P f args w R) : CallsIn (FW l) n P f args w R :=
  show CallsIn Fence.wide n P f args w R from callsIn_wide.2 h
theorem uponIn_of {l n : Nat} {P : Program} {o : Oper} {a : Act} {next next' : Act → World → Prop} {Q : Exit → Act → World → Prop} (hn : ∀ a w, next a w → next' a w) {r : Result Next} (h : o.upon P a next Q r) : o.uponIn (FW l) n P a next' Q r := by
  unfold Oper.upon at h
  split at h
  · exact hn _ _ h
  · exact hn _ _ h
  · exact hn _ _ h
  · refine ⟨fun e => (by cases e), callsIn_FW (h.mono fun e w2 h2 => ?_)⟩
    cases e with
    | returned v => exact hn _ _ h2
    | panicked c => exact h2
    | outgrown => exact h2
  · refine ⟨fun e => (by cases e), fun c cs _ => ?_⟩
    obtain ⟨v, w2, h2, h3⟩ := h c cs
    exact ⟨v, w2, hn _ _ h2, (show StepsIn (Machine.fenced P Fence.wide) P _ _ from stepsIn_wide.2 h3)⟩
  · exact h
  · exact h.elim
def noDefer : Op → Bool
  | .defer _ => false
  | _ => true
theorem wpListIn_of {l n : Nat} {P : Program} {ops : Array Oper} {Q : Exit → Act → World → Prop} (hQ : ¬ LetsOut Q) : ∀ {os : List Oper} {a : Act} {w : World}, os.all (fun o => noDefer o.op) = true → wpList P ops Q os a w → wpListIn (FW l) n P ops Q os a w
  | [], _, _, _, h => h
  | o :: os, a, w, hd, h => by
    simp only [List.all_cons, Bool.and_eq_true] at hd
    have ih : ∀ a w, wpList P ops Q os a w → wpListIn (FW l) n P ops Q os a w := fun a w => wpListIn_of hQ hd.2
    unfold wpList at h
    unfold wpListIn
    split at h
    · rename_i hw
      rw [if_pos hw]
      rcases h with h | h
      · refine ⟨fun _ _ => trivial, ?_⟩
        have hs : Oper.semAt (FW l).round a.eval o = execOp a.eval o := Oper.semAt_eq _ _ _ fun c hc => by rw [hc] at hd; simp [noDefer] at hd
        rw [hs]
        exact uponIn_of ih h
      · exact absurd h.2 hQ
    · rename_i hw
      rw [if_neg hw]
      exact ⟨fun _ _ => trivial, ih _ _ h⟩
/-- What code does in a round. -/
def CI (l n : Nat) (P : Program) (N : Nat) (c : Code) (ds : List Deferred) (L : Env) (w : World) (A B : Out) (X : Nat → Out) (Z : List PanicEntry → Out) : Prop := ∀ a, Knows N ds L a → c.wpIn (FW l) n P (lift N A B X Z) a w
section
variable {l n : Nat} {P : Program} {N : Nat} {ds : List Deferred} {L : Env} {w : World} {A B : Out} {X : Nat → Out} {Z : List PanicEntry → Out}
theorem noOut : ¬ LetsOut (lift N A B X Z) := fun ⟨_, _, h⟩ => h
theorem ci_reg {id : Nat} {os : List Oper} (hd : os.all (fun o => noDefer o.op) = true) (h : Reg P N os.toArray .seq os ds L w A B X Z) : CI l n P N (.region id os.toArray false) ds L w A B X Z :=
  fun a ha => wpIn_region_lit (wpListIn_of noOut hd (h a ha))
theorem ci_seq {x y : Code} (h : CI l n P N x ds L w (fun ds' L' w' => CI l n P N y ds' L' w' A B X Z) B X Z) : CI l n P N (.seq x y) ds L w A B X Z := fun a ha =>
  wpIn_seq (wpIn_mono (h a ha) fun e a' w' hq => by
    cases e with
    | normal => obtain ⟨ds', L', ha', hk⟩ := hq; exact hk a' ha'
    | _ => exact hq)
theorem ci_skip (h : A ds L w) : CI l n P N .skip ds L w A B X Z := fun a ha => wpIn_skip ⟨ds, L, ha, h⟩
theorem ci_ret (h : B ds L w) : CI l n P N .ret ds L w A B X Z := fun a ha => wpIn_ret ⟨ds, L, ha, h⟩
theorem ci_cond {c : Operand} {x y : Code} {b : Bool} (hc : ev L c = some (.bool b)) (ht : b = true → CI l n P N x ds L w A B X Z) (hf : b = false → CI l n P N y ds L w A B X Z) : CI l n P N (.cond c x y) ds L w A B X Z := fun a ha => by
  cases b with
  | true => exact wpIn_cond_true (ha.eval hc) (ht rfl a ha)
  | false => exact wpIn_cond_false (ha.eval hc) (hf rfl a ha)
end
section
variable {l n : Nat} {P : Program} {N : Nat} {ds : List Deferred} {L : Env} {w : World} {A B : Out} {X : Nat → Out} {Z : List PanicEntry → Out}
theorem ci_sub {c : Code} {L' : Env} (hs : Sub L L') (h : CI l n P N c ds L w A B X Z) : CI l n P N c ds L' w A B X Z := fun a ha => h a (ha.sub hs)
theorem ci_block {id : Nat} {c : Code} (h : CI l n P N c ds L w A B (exB id A X) Z) : CI l n P N (.block id c) ds L w A B X Z := fun a ha =>
  wpIn_block (wpIn_mono (h a ha) fun e a' w' hq => by
    cases e with
    | exit i =>
      obtain ⟨ds', L', ha', hx⟩ := hq
      simp only [Exit.inBlock]
      by_cases hi : i = id
      · subst hi
        rw [if_pos rfl]
        exact ⟨ds', L', ha', by simpa [exB] using hx⟩
      · rw [if_neg hi]
        refine ⟨ds', L', ha', ?_⟩
        have hb : Nat.beq i id = false := by
          cases hb : Nat.beq i id with
          | false => rfl
          | true => exact absurd (Nat.eq_of_beq_eq_true hb) hi
        simpa [exB, hb] using hx
    | _ => exact hq)
end
/-- A range over a function that yields numbers. -/
theorem cw_range {P : Program} {N : Nat} {ds : List Deferred} {L : Env} {w : World} {A B : Out} {X : Nat → Out} {Z : List PanicEntry → Out} {g : Operand} {p : Nat} {assign body : Code} {gf : Nat} {lb : Array Value} {α : Type} {val : α → Int} {xs : List α} {K : World → World → Prop}
    (hg : ev L g = some (.func (.func gf) #[] lb)) (eg : ∀ args w, (callFunc gf args).run P w = .ok (.enter gf args) w) (hp : Nat.blt p N = true)
    (hseq : SeqStopsK Fence.wide 2 P gf lb (fun x : α => #[Value.int .i64 (val x)]) K (fun ys => ys = xs) (fun pre => pre <+: xs) xs.length w)
    (hKt : ∀ {A B C : World}, K A B → K B C → K A C) (hKb : ∀ (W : World) (l : Nat) (o o' : Obj), w.heap.size ≤ l → W.heap[l]? = some o → o.isCells = false → o.isWalk = false → K W (W.putObj l o'))
    (I Ix : List α → World → Prop) (hI : OwnFrom w.heap.size I) (hIx : OwnFrom w.heap.size Ix) (h0 : I [] w)
    (AL : α → Env → World → Prop) (hAL : ∀ x L', OwnFrom w.heap.size fun (_ : Unit) W => AL x L' W)
    (hassign : ∀ (l : Nat) (pre : List α) (x : α) (W : World), I pre W → CI l 1 P N assign [] ((p, .int .i64 (val x)) :: L) W (fun ds' L' W' => ds' = [] ∧ KeepsFrom w.heap.size W W' ∧ K W W' ∧ I pre W' ∧ AL x L' W') (fun _ _ _ => False) NoX (fun _ _ _ _ => False))
    (hbody : ∀ (l : Nat) (pre : List α) (x : α) (L' : Env) (W : World), I pre W → AL x L' W → pre.length < xs.length →
      CI l 1 P N body [] L' W (fun _ _ W' => KeepsFrom w.heap.size W W' ∧ K W W' ∧ I (pre ++ [x]) W') (fun _ _ W' => KeepsFrom w.heap.size W W' ∧ Ix (pre ++ [x]) W') NoX (fun _ _ _ _ => False))
    (hdone : ∀ (D : Nat) (W : World), w.heap.size ≤ D → I xs W → W.heap[D]? = some (.deferred (some [])) → A ({ target := .collected D, args := #[] } :: ds) L W)
    (hstop : ∀ (D : Nat) (pre : List α) (W : World), w.heap.size ≤ D → pre <+: xs → Ix pre W → W.heap[D]? = some (.deferred (some [])) → B ({ target := .collected D, args := #[] } :: ds) L W) :
    CW P N (.rangeFunc g #[p] assign body) ds L w A B X Z := by
  intro a ha
  refine (wpIn_wide (n := 3)).1 ?_
  have hN : p < N := by simpa [Nat.blt_eq] using hp
  refine wpIn_rangeFunc_ownH (F := Fence.wide) (n := 3) rfl (by omega) (ha.eval hg) trivial eg hseq (fun h k => hKt h k) hKb (Below.refl _ _) (fun x => rfl) I (fun c pre W => c = .ret ∧ Ix pre W) hI
    (fun c s W W' row hs hgr hr => ⟨hs.1, hIx s W W' row hs.2 hgr hr⟩) h0 (fun x a' W => ∃ L', Knows N [] L' a' ∧ AL x L' W) (fun x a' s W W' row hs hgr hr => ?_) ?_ ?_ ?_ ?_
  · obtain ⟨L', h1, h2⟩ := hs
    exact ⟨L', h1, hAL x L' () W W' row h2 hgr hr⟩
  · intro l pre x W K' hi hK
    have hk : Knows N [] ((p, .int .i64 (val x)) :: L) { tmps := a.tmps.setIfInBounds p (.int .i64 (val x)), defers := [] } := by
      have := (show Knows N [] L { a with defers := [] } from ⟨ha.size, rfl, ha.val⟩).put hp (.int .i64 (val x))
      exact this
    have hz : (Array.foldl (fun (t : Array Value) (x : Tmp × Value) => match x with | (p, v) => t.setIfInBounds p v) a.tmps (#[p].zip #[Value.int .i64 (val x)])) = a.tmps.setIfInBounds p (.int .i64 (val x)) := by simp
    rw [hz]
    refine wpIn_mono (hassign l pre x W hi _ hk) fun e a' W' hq => ?_
    cases e with
    | normal => obtain ⟨ds', L', h1, rfl, h3, h4, h5, h6⟩ := hq; exact hK a' W' h3 h4 h5 ⟨L', h1, h6⟩
    | ret => obtain ⟨_, _, _, h⟩ := hq; exact h.elim
    | exit i => obtain ⟨_, _, _, h⟩ := hq; exact h.elim
    | panic c => obtain ⟨_, _, _, h⟩ := hq; exact h.elim
    | goto l => exact hq.elim
    | outgrown => exact hq.elim
  · intro l pre x a' W _ _ hi hA hl
    obtain ⟨L', h1, h2⟩ := hA
    refine wpIn_mono (hbody l pre x L' W hi h2 hl a' h1) fun e a' W' hq => ?_
    cases e with
    | normal => obtain ⟨ds', L', h1, h3⟩ := hq; exact h3
    | ret => obtain ⟨ds', L', h1, h3, h4⟩ := hq; exact ⟨h3, rfl, h4⟩
    | exit i => obtain ⟨_, _, _, h⟩ := hq; exact h.elim
    | panic c => obtain ⟨_, _, _, h⟩ := hq; exact h.elim
    | goto l => exact hq.elim
    | outgrown => exact hq.elim
  · intro D ys W hD hy hi hw
    subst hy
    exact ⟨_, L, ⟨ha.size, by rw [ha.defers], ha.val⟩, hdone D W hD hi hw⟩
  · intro D c pre W hD hy hi hw
    obtain ⟨rfl, hi⟩ := hi
    exact wpIn_ret ⟨_, L, ⟨ha.size, by rw [ha.defers], ha.val⟩, hstop D pre W hD hy hi hw⟩
end Go.Sx
namespace Go.Sx
open Go Go.RowKit
/-- One after another, until the answer is yes. -/
def runL {S : Type} (f : S → Int → Bool × S) : S → List Int → Bool × S
  | s, [] => (false, s)
  | s, v :: r => bif (f s v).1 then (true, (f s v).2) else runL f (f s v).2 r
theorem runL_app {S : Type} {f : S → Int → Bool × S} : ∀ {a b : List Int} {s : S}, runL f s (a ++ b) = bif (runL f s a).1 then runL f s a else runL f (runL f s a).2 b
  | [], b, s => rfl
  | v :: a, b, s => by
    simp only [List.cons_append, runL]
    cases h : (f s v).1 with
    | true => rfl
    | false => simp only [cond_false]; exact runL_app
theorem runL_no {S : Type} {f : S → Int → Bool × S} {a : List Int} {s s1 : S} {v : Int} (h : runL f s a = (false, s1)) : runL f s (a ++ [v]) = f s1 v := by
  rw [runL_app, h]
  simp only [cond_false, runL]
  cases h2 : (f s1 v).1 with
  | true => simp only [cond_true]; rw [← h2]
  | false => simp only [cond_false]; rw [← h2]
theorem runL_yes {S : Type} {f : S → Int → Bool × S} {a b : List Int} {s s1 : S} (h : runL f s a = (true, s1)) (hp : a <+: b) : runL f s b = (true, s1) := by
  obtain ⟨r, rfl⟩ := hp
  rw [runL_app, h]; rfl
/-- All choices of values for some traits, in order, from trait t on, until the answer is yes: k traits are left. -/
def onS {S : Type} (so : S → List Int → Bool × S) (lists : Nat → Option (List Int)) : Nat → Nat → List Int → S → Bool × S
  | 0, _, x, s => so s x
  | k + 1, t, x, s => match lists t with
    | none => onS so lists k (t + 1) x s
    | some l => runL (fun s v => onS so lists k (t + 1) (x.set t v) s) s l
theorem runL_G {S : Type} {G : S → Prop} {f : S → Int → Bool × S} : ∀ {l : List Int} {s : S}, (∀ v ∈ l, ∀ s, G s → (f s v).1 = false → G (f s v).2) → G s → (runL f s l).1 = false → G (runL f s l).2
  | [], s, _, hg, _ => hg
  | v :: l, s, h, hg, hr => by
    unfold runL at hr ⊢
    cases hb : (f s v).1 with
    | true => rw [hb] at hr; cases hr
    | false =>
      rw [hb] at hr
      simp only [cond_false] at hr ⊢
      exact runL_G (fun v hv => h v (List.mem_cons_of_mem _ hv)) (h v (List.mem_cons_self ..) s hg hb) hr
theorem onS_G {S : Type} {G : S → Prop} {D : List Int → Prop} {so : S → List Int → Bool × S} {lists : Nat → Option (List Int)} (hG : ∀ s x, G s → D x → (so s x).1 = false → G (so s x).2) (hset : ∀ t l v x, lists t = some l → v ∈ l → D x → D (x.set t v)) :
    ∀ (k t : Nat) (x : List Int) (s : S), D x → G s → (onS so lists k t x s).1 = false → G (onS so lists k t x s).2
  | 0, t, x, s, hd, hg, h => hG s x hg hd h
  | k + 1, t, x, s, hd, hg, h => by
    unfold onS at h ⊢
    cases hl : lists t with
    | none => rw [hl] at h; exact onS_G hG hset k (t + 1) x s hd hg h
    | some l =>
      rw [hl] at h
      exact runL_G (fun v hv s hg => onS_G hG hset k (t + 1) (x.set t v) s (hset t l v x hl hv hd) hg) hg h
theorem Chunks.int {k : IntKind} {M M' : List Nat} {w w' : World} : ∀ {cs : List Value} {xs : List Int}, Chunks (intE k) M w cs xs → Chunks (intE k) M' w' cs xs
  | _, [], h => h
  | _, _ :: _, ⟨c, rest, h, hR, hr⟩ => ⟨c, rest, h, hR, Chunks.int hr⟩
theorem Own.int {k : IntKind} {e Bb : Nat} {M M' : List Nat} {w w' : World} {v : Value} {xs : List Int} (h : Own (intE k) e Bb M w v xs) (hb : ∀ b ∈ ob v, w'.heap[b]? = w.heap[b]?) : Own (intE k) e Bb M' w' v xs := by
  rcases h with h | ⟨g, cap, cur, rfl, h1, h2, h3, h4, h5, h6⟩
  · exact .inl h
  · exact .inr ⟨g, cap, cur, rfl, h1, by rw [hb g (by simp [ob])]; exact h2, h3, h4, h5, Chunks.int h6⟩
theorem Own.isCells {α : Type} {E : Enc α} {e Bb : Nat} {M : List Nat} {w : World} {v : Value} {xs : List α} (h : Own E e Bb M w v xs) : ∀ b ∈ ob v, ∃ cs t p, w.heap[b]? = some (Obj.cells cs t p) := by
  intro b hb
  rcases h with ⟨a, rfl, rfl⟩ | ⟨g, cap, cur, rfl, h1, h2, _⟩
  · cases a <;> cases hb
  · have : b = g := by simpa [ob] using hb
    subst this; exact ⟨_, _, _, h2⟩
/-- What a function value keeps in memory of its own: numbers s, in cells of the blocks fp. -/
structure Held {S : Type} (H : S → List Nat → World → Prop) : Prop where
  cells : ∀ {s fp w}, H s fp w → ∀ b ∈ fp, ∃ cs t p, w.heap[b]? = some (Obj.cells cs t p)
  kp : ∀ {s fp w w'}, H s fp w → (∀ b ∈ fp, w'.heap[b]? = w.heap[b]?) → H s fp w'
theorem Held.lt {S : Type} {H : S → List Nat → World → Prop} (h : Held H) {s : S} {fp : List Nat} {w : World} (hs : H s fp w) : ∀ b ∈ fp, b < w.heap.size := fun b hb => by
  obtain ⟨cs, t, p, h1⟩ := h.cells hs b hb
  exact heap_lt h1
/-- A function value with a state of its own: what it does with a list, from state to state; since world w1, the blocks of A alone were changed. -/
structure ClH (P : Program) (f : Value) {S : Type} (D : List Int → Prop) (G : S → Prop) (so : S → List Int → Bool × S) (H : S → List Nat → World → Prop) (A : List Nat) (w1 : World) : Prop where
  run : ∀ {w : World} {fp : List Nat} {s : S} {x : List Int} {v : Value}, Kp A w1 w → (∀ c ∈ fp, c ∈ A ∨ w1.heap.size ≤ c) → H s fp w → G s → RdS (intE .i64) fp w v x → D x →
    CallsV P f [v] w fun e w' => e = .returned (.bool (so s x).1) ∧ Kp fp w w' ∧ ∃ fp', H (so s x).2 fp' w' ∧ ∀ c ∈ fp', c ∈ fp ∨ w.heap.size ≤ c
/-- What is so in the midst of 'on', called in world w with the blocks fp: the list in vx is x, the state s lies in fp1; the blocks bt, br hold the trait and the answer. -/
structure Mid {S : Type} (H : S → List Nat → World → Prop) (vx : Value) (w : World) (fp : List Nat) (bt br : Nat) (t : Int) (x : List Int) (s : S) (fp1 : List Nat) (r : Bool) (w2 : World) : Prop where
  kp : Kp (ob vx ++ fp) w w2
  hs : H s fp1 w2
  fpn : ∀ c ∈ fp1, c ∈ fp ∨ w.heap.size ≤ c
  own : Own (intE .i64) 3 0 [] w2 vx x
  sep : ∀ c ∈ ob vx, c ∉ fp1
  rt : Row 3 w2 bt [.int .i64 t]
  rr : Row 4 w2 br [.bool r]
  nt : w.heap.size ≤ bt
  nr : w.heap.size ≤ br
  ne : bt ≠ br
  tx : bt ∉ ob vx ++ fp1
  rx : br ∉ ob vx ++ fp1
section
variable {S : Type} {H : S → List Nat → World → Prop} {vx : Value} {w : World} {fp : List Nat} {bt br : Nat} {t : Int} {x : List Int} {s : S} {fp1 : List Nat} {r : Bool} {w2 w3 : World}
theorem Mid.ext (hH : Held H) (h : Mid H vx w fp bt br t x s fp1 r w2) (e : Ext w2 w3) : Mid H vx w fp bt br t x s fp1 r w3 :=
  ⟨h.kp.trans e.kp, hH.kp h.hs fun b hb => e.block b (hH.lt h.hs b hb) (by simp), h.fpn, h.own.int fun b hb => e.block b (by obtain ⟨_, _, _, h1⟩ := h.own.isCells b hb; exact heap_lt h1) (by simp), h.sep, h.rt.kp e (by simp), h.rr.kp e (by simp), h.nt, h.nr, h.ne, h.tx, h.rx⟩
theorem Mid.stR {b : Bool} (hH : Held H) (h : Mid H vx w fp bt br t x s fp1 r w2) (k : Kp [br] w2 w3) (hr : Row 4 w3 br [.bool b]) : Mid H vx w fp bt br t x s fp1 b w3 := by
  have hne : ∀ c ∈ ob vx ++ fp1, c ∉ [br] := fun c hc hc' => by
    have : c = br := by simpa using hc'
    subst this; exact h.rx hc
  refine ⟨h.kp.tail k fun c hc => .inr ?_, hH.kp h.hs fun b hb => k.block b (hH.lt h.hs b hb) (hne b (List.mem_append_right _ hb)), h.fpn, h.own.int fun b hb => k.block b (by obtain ⟨_, _, _, h1⟩ := h.own.isCells b hb; exact heap_lt h1) (hne b (List.mem_append_left _ hb)), h.sep, h.rt.kp k ?_, hr, h.nt, h.nr, h.ne, h.tx, h.rx⟩
  · have : c = br := by simpa using hc
    subst this; exact h.nr
  · have := h.ne
    simpa using this
theorem Mid.stX {x' : List Int} (hH : Held H) (h : Mid H vx w fp bt br t x s fp1 r w2) (k : Kp (ob vx) w2 w3) (ho : Own (intE .i64) 3 0 [] w3 vx x') : Mid H vx w fp bt br t x' s fp1 r w3 :=
  ⟨h.kp.trans (k.mono fun c hc => .inl (List.mem_append_left _ hc)), hH.kp h.hs fun b hb => k.block b (hH.lt h.hs b hb) (fun hb' => h.sep b hb' hb), h.fpn, ho, h.sep, h.rt.kp k (fun hb => h.tx (List.mem_append_left _ hb)), h.rr.kp k (fun hb => h.rx (List.mem_append_left _ hb)), h.nt, h.nr, h.ne, h.tx, h.rx⟩
theorem Mid.call {x' : List Int} {s' : S} {fp2 : List Nat} (hH : Held H) (h : Mid H vx w fp bt br t x s fp1 r w2) (k : Kp (ob vx ++ fp1) w2 w3) (hs : H s' fp2 w3) (hn : ∀ c ∈ fp2, c ∈ fp1 ∨ w2.heap.size ≤ c) (ho : Own (intE .i64) 3 0 [] w3 vx x') : Mid H vx w fp bt br t x' s' fp2 r w3 := by
  have hox : ∀ b ∈ ob vx, b < w2.heap.size := fun b hb => by obtain ⟨_, _, _, h1⟩ := h.own.isCells b hb; exact heap_lt h1
  have hold : ∀ b, b < w2.heap.size → b ∉ ob vx ++ fp1 → b ∉ ob vx ++ fp2 := fun b hb hnot hb' => by
    rcases List.mem_append.1 hb' with h1 | h1
    · exact hnot (List.mem_append_left _ h1)
    · rcases hn b h1 with h2 | h2
      · exact hnot (List.mem_append_right _ h2)
      · omega
  refine ⟨h.kp.tail k fun c hc => ?_, hs, fun c hc => ?_, ho, fun c hc hc' => ?_, h.rt.kp k h.tx, h.rr.kp k h.rx, h.nt, h.nr, h.ne, hold _ h.rt.rd.lt h.tx, hold _ h.rr.rd.lt h.rx⟩
  · rcases List.mem_append.1 hc with h1 | h1
    · exact .inl (List.mem_append_left _ h1)
    · rcases h.fpn c h1 with h2 | h2
      · exact .inl (List.mem_append_right _ h2)
      · exact .inr h2
  · rcases hn c hc with h1 | h1
    · exact h.fpn c h1
    · exact .inr (Nat.le_trans h.kp.size h1)
  · rcases hn c hc' with h1 | h1
    · exact h.sep c hc h1
    · have := hox c hc; omega
/-- A block turned that holds no cells and is new. -/
theorem Mid.turn {row : Option Nat} (hH : Held H) (h : Mid H vx w fp bt br t x s fp1 r w2) (hg : w2.grownBy w3 row) (hr : ∀ j, row = some j → w.heap.size ≤ j ∧ ∃ o : Obj, w2.heap[j]? = some o ∧ o.isCells = false) : Mid H vx w fp bt br t x s fp1 r w3 := by
  have hc : ∀ b, (∃ cs t p, w2.heap[b]? = some (Obj.cells cs t p)) → w3.heap[b]? = w2.heap[b]? := fun b hb => by
    obtain ⟨cs, t, p, h1⟩ := hb
    refine hg.block b (heap_lt h1) fun e => ?_
    obtain ⟨o, h2, h3⟩ := (hr b e.symm).2
    rw [h1] at h2; cases h2; cases h3
  have hk : Kp (row.toList) w2 w3 := Kp.of_grownBy hg fun k e => by rw [e]; simp
  have hrow : ∀ c ∈ row.toList, w.heap.size ≤ c := fun c hc' => by
    cases row with
    | none => cases hc'
    | some j =>
      have : c = j := by simpa using hc'
      subst this; exact (hr c rfl).1
  exact ⟨h.kp.tail hk fun c hc' => .inr (hrow c hc'), hH.kp h.hs fun b hb => hc b (hH.cells h.hs b hb), h.fpn, h.own.int fun b hb => hc b (h.own.isCells b hb), h.sep, (hc bt ⟨_, _, _, h.rt⟩).trans h.rt, (hc br ⟨_, _, _, h.rr⟩).trans h.rr, h.nt, h.nr, h.ne, h.tx, h.rx⟩
theorem Mid.noncells (hH : Held H) (h : Mid H vx w fp bt br t x s fp1 r w2) {k : Nat} {o : Obj} (hk : w2.heap[k]? = some o) (ho : o.isCells = false) : k ∉ ob vx ++ fp1 := fun hm => by
  have : ∃ cs t p, w2.heap[k]? = some (Obj.cells cs t p) := (List.mem_append.1 hm).elim (h.own.isCells k) (hH.cells h.hs k)
  obtain ⟨cs, t, p, h1⟩ := this
  rw [hk] at h1; cases h1; cases ho
end
theorem ClH.adv {P : Program} {f : Value} {S : Type} {D : List Int → Prop} {G : S → Prop} {so : S → List Int → Bool × S} {H : S → List Nat → World → Prop} {M M' : List Nat} {w w' : World} (h : ClH P f D G so H M w) (ha : Adv M M' w w') : ClH P f D G so H M' w' := ⟨fun k hc hs hg hx hd =>
  h.run (ha.kp.tail k ha.new) (fun c hc' => (hc c hc').elim (ha.new c) fun h1 => .inr (Nat.le_trans ha.kp.size h1)) hs hg hx hd⟩
/-- What a call of 'on' leaves. -/
def OnPost {S : Type} (H : S → List Nat → World → Prop) (vx : Value) (fp : List Nat) (x : List Int) (b : Bool) (s' : S) (w : World) (e : Ending) (w' : World) : Prop :=
  e = .returned (.bool b) ∧ Kp (ob vx ++ fp) w w' ∧ ∃ (fp' : List Nat) (x' : List Int), H s' fp' w' ∧ (∀ c ∈ fp', c ∈ fp ∨ w.heap.size ≤ c) ∧ Own (intE .i64) 3 0 [] w' vx x' ∧ (b = false → x' = x)
theorem Mid.adv {S : Type} {H : S → List Nat → World → Prop} {vx : Value} {w : World} {fp : List Nat} {bt br : Nat} {t : Int} {x : List Int} {s : S} {fp1 : List Nat} {r : Bool} {w2 : World} (h : Mid H vx w fp bt br t x s fp1 r w2) : Adv (ob vx ++ fp) (ob vx ++ fp1) w w2 :=
  ⟨h.kp, fun b hb => (List.mem_append.1 hb).elim (fun h1 => .inl (List.mem_append_left _ h1)) fun h1 => (h.fpn b h1).elim (fun h2 => .inl (List.mem_append_right _ h2)) .inr⟩
theorem Mid.mlt {S : Type} {H : S → List Nat → World → Prop} (hH : Held H) {vx : Value} {w : World} {fp : List Nat} {bt br : Nat} {t : Int} {x : List Int} {s : S} {fp1 : List Nat} {r : Bool} {w2 : World} (h : Mid H vx w fp bt br t x s fp1 r w2) : MLt (ob vx ++ fp1) w2 := fun b hb => (List.mem_append.1 hb).elim (fun h1 => by obtain ⟨_, _, _, h2⟩ := h.own.isCells b h1; exact heap_lt h2) (hH.lt h.hs b)
theorem Mid.post {S : Type} {H : S → List Nat → World → Prop} {vx : Value} {w : World} {fp : List Nat} {bt br : Nat} {t : Int} {x x' : List Int} {s' : S} {fp1 : List Nat} {b : Bool} {w2 : World} (h : Mid H vx w fp bt br t x' s' fp1 b w2) (hx : b = false → x' = x) : OnPost H vx fp x b s' w (.returned (.bool b)) w2 :=
  ⟨rfl, h.kp, fp1, x', h.hs, h.fpn, h.own, hx⟩
end Go.Sx
namespace Go.Proofs.Ytecmlmngcnionaa
open Go Go.RowKit Go.Shelf
attribute [local go_sem] Oper.semAt_some
set_option maxRecDepth 100000 in
set_option maxHeartbeats 2000000 in
theorem values1_in (F : Fence) (n : Nat) (h7 : F.fn 74) (hro : F.round = none) (hn : 1 ≤ n) (l Bs b off len cap : Nat) {α : Type} (val : α → Int) (zs : List α) (hlen : zs.length = len) (hreach : len * 8 ≤ 140737488351232) (K : World → World → Prop) (hKr : ∀ W, K W W) (hKt : ∀ {A B C : World}, K A B → K B C → K A C) (hKc : ∀ {W W' : World} {j : Nat} {v : Value}, K W W' → W.cell? ⟨b, j, none⟩ = some v → W'.cell? ⟨b, j, none⟩ = some v) (J Jx : List α → World → Prop)
    (hY : ∀ pre x W, J pre W → pre.length < len → YieldAt F (n - 1) Try.prog l #[.int .i64 (val x)] W fun e W' =>
      (e = .returned (.bool true) ∧ J (pre ++ [x]) W' ∧ K W W') ∨ (e = .returned (.bool false) ∧ Jx (pre ++ [x]) W'))
    (W : World) (hBs : W.cell? ⟨Bs, 0, none⟩ = some (.slice (some ⟨b, off, none⟩) len cap)) (hc : ∀ (j : Nat) (x : α), zs[j]? = some x → W.cell? ⟨b, off + j, none⟩ = some (.int .i64 (val x))) (h0 : J [] W) :
    CallsIn F n Try.prog 74 #[.func (.yield l) #[] #[], .pointer (some ⟨Bs, 0, none⟩)] W fun e W' => (∃ v, e = .returned v) ∧
      ((∃ ys, ys = zs ∧ J ys W') ∨ (∃ pre, (∃ k, pre = zs.take k) ∧ Jx pre W')) := by
  refine callsIn_of_wp Try.func74 rfl h7 ?_ hro
  simp only [Try.ntmps74, List.size_toArray, List.length_cons, List.length_nil, Nat.reduceAdd, Nat.reduceSub, Array.replicate_succ, Array.replicate_zero, List.push_toArray, List.append_toArray, List.nil_append, List.cons_append]
  gi_wp2
  gi_loopw [7] (fun i wr => ∃ k : Nat, k ≤ len ∧ i = .int .i64 k ∧ J (zs.take k) wr ∧ K W wr)
    (fun i _ => len - (intOf i).toNat)
  case atStart => exact ⟨0, Nat.zero_le _, rfl, h0, hKr _⟩
  case round =>
    obtain ⟨k, hk, rfl, hJs, hnx⟩ := hrel
    by_cases hlt : k < len
    · have hz : zs[k]? = some zs[k] := List.getElem?_eq_getElem (by omega)
      obtain ⟨fn, tmps, assign, body, hy, hR⟩ := hY _ zs[k] wr hJs (by rw [List.length_take]; omega)
      have hcx' := hKc hnx (hc k _ hz)
      have htk : zs.take (k + 1) = zs.take k ++ [zs[k]] := by rw [List.take_add_one, hz]; rfl
      gi_wp2
      refine hR.mono ?_
      rintro e W3 (⟨rfl, hJ3, hk3⟩ | ⟨rfl, hJx3⟩)
      · gi_wp2
        go_roundw
        case rel => exact ⟨k + 1, by omega, by simp, by rw [htk]; exact hJ3, hKt hnx hk3⟩
        case measure => simp [intOf]; omega
      · gi_wp2
        refine bodyPost_ret (results_none rfl _ _ _) rfl ?_
        exact ⟨⟨_, rfl⟩, .inr ⟨_, ⟨k + 1, htk.symm⟩, hJx3⟩⟩
    · obtain rfl : k = len := by omega
      gi_wp2
      go_end0
      exact ⟨⟨_, rfl⟩, .inl ⟨_, rfl, by rwa [List.take_of_length_le (by omega)] at hJs⟩⟩
set_option maxRecDepth 100000 in
set_option maxHeartbeats 1000000 in
theorem values1_none_in (F : Fence) (n : Nat) (h7 : F.fn 74) (hro : F.round = none) (l Bs cap : Nat) (a : Option Addr) {α : Type} (J : List α → World → Prop) (W : World) (hBs : W.cell? ⟨Bs, 0, none⟩ = some (.slice a 0 cap)) (h0 : J [] W) :
    CallsIn F n Try.prog 74 #[.func (.yield l) #[] #[], .pointer (some ⟨Bs, 0, none⟩)] W fun e W' => (∃ v, e = .returned v) ∧ J [] W' := by
  refine callsIn_of_wp Try.func74 rfl h7 ?_ hro
  simp only [Try.ntmps74, List.size_toArray, List.length_cons, List.length_nil, Nat.reduceAdd, Nat.reduceSub, Array.replicate_succ, Array.replicate_zero, List.push_toArray, List.append_toArray, List.nil_append, List.cons_append]
  gi_wp2
  gi_loopw [7] (fun i wr => i = .int .i64 0 ∧ J [] wr) (fun _ _ => 0)
  case atStart => exact ⟨rfl, h0⟩
  case round =>
    obtain ⟨rfl, hJs⟩ := hrel
    gi_wp2
    go_end0
    exact ⟨⟨_, rfl⟩, hJs⟩
/-- What slices.Values hands back yields the elements, to every body of a loop that keeps the slice's block. -/
theorem values_stops (F : Fence) (n : Nat) (h7 : F.fn 74) (hro : F.round = none) (hn : 1 ≤ n) {M : List Nat} {w : World} {v : Value} {xs : List Int} (h : Sx.ItS (Sx.intE .i64) 74 M w v xs) {α : Type} (val : α → Int) (zs : List α) (hzs : zs.map val = xs) (hreach : xs.length * 8 ≤ 140737488351232) (K : World → World → Prop) (hKr : ∀ W, K W W) (hKt : ∀ {A B C : World}, K A B → K B C → K A C)
    (hKc : ∀ {b : Nat}, b ∉ M → b < w.heap.size → ∀ {W W' : World} {j : Nat} {u : Value}, K W W' → W.cell? ⟨b, j, none⟩ = some u → W'.cell? ⟨b, j, none⟩ = some u) :
    ∃ lb, v = .func (.func 74) #[] lb ∧ SeqStopsK F n Try.prog 74 lb (fun x : α => #[Value.int .i64 (val x)]) K (fun ys => ys = zs) (fun pre => pre <+: zs) zs.length w := by
  obtain ⟨bs, u, rfl, hC, a, c, rfl, h1, h2, h3⟩ := h
  refine ⟨_, rfl, fun l J Jx W hW _ _ hY h0 => ?_⟩
  have hBs : W.cell? ⟨bs, 0, none⟩ = some (.slice a xs.length c) := (hW.cell (p := ⟨bs, 0, none⟩) hC.lt).trans (hC.cells.at 0 rfl)
  by_cases hx : xs = []
  · subst hx
    have hz0 : zs = [] := List.map_eq_nil_iff.1 hzs
    subst hz0
    exact (values1_none_in F n h7 hro l bs c a J W hBs h0).mono fun e W' ⟨he, hj⟩ => ⟨he, .inl ⟨_, rfl, hj⟩⟩
  · obtain ⟨b, o, rfl, hbM, hbl, hel⟩ := h3.resolve_left hx
    have hl : zs.length = xs.length := by rw [← hzs, List.length_map]
    rw [hl] at hY
    refine (values1_in F n h7 hro hn l bs b o xs.length c val zs hl hreach K hKr hKt (hKc hbM hbl) J Jx hY W hBs (fun j x hx => ?_) h0).mono ?_
    · have hj : j < xs.length := by have := Sx.get_lt hx; omega
      obtain ⟨cs, hR, hc⟩ := hel j hj
      obtain ⟨rfl, _⟩ := Sx.intE_R.1 hR
      have h9 := hc.at 0 rfl
      have hv : xs[j] = val x := by
        have : xs[j]? = some (val x) := by rw [← hzs, List.getElem?_map, hx]; rfl
        rw [List.getElem?_eq_getElem hj] at this; exact Option.some.inj this
      refine (hW.cell (p := ⟨b, o + j, none⟩) hbl).trans ?_
      rw [← hv]
      simpa [Sx.intE] using h9
    · rintro e W' ⟨he, ⟨ys, rfl, hj⟩ | ⟨pre, ⟨k, rfl⟩, hj⟩⟩
      · exact ⟨he, .inl ⟨_, rfl, hj⟩⟩
      · exact ⟨he, .inr ⟨_, List.take_prefix _ _, hj⟩⟩
end Go.Proofs.Ytecmlmngcnionaa
namespace Go.Proofs.Ytecmlmngcnionaa
open Go Go.Sx Go.RowKit
/-- What 'on' reads, out of the blocks of M. -/
structure OnEnv (M : List Nat) (w : World) (wk : Works) (spans : List (Int × Span)) (vso vx v1 v2 v4 : Value) (b1 b2 b3 b4 b5 bm : Nat) : Prop where
  mlt : MLt M w
  f0 : InK IntKind.i64 wk.model.traits
  f1 : RdS CardE M w v1 wk.model.cards
  f2 : RdS TreeE M w v2 wk.model.trees
  f3 : InK IntKind.i64 wk.model.need
  f4 : RdS I87E M w v4 wk.parts
  c1 : RdC M w b1 0 [.int .i64 wk.model.traits, v1, v2, .int .i64 wk.model.need, v4]
  c2 : RdC M w b2 0 [vso]
  c3 : RdC M w b3 0 [vx]
  c4 : RdC M w b4 0 [.map (some bm)]
  fm : RdM SpanE true .i64 M w bm spans
  c5 : RdC M w b5 0 [.func (.func 59) #[] [Value.pointer (some ⟨b1, 0, none⟩), .pointer (some ⟨b2, 0, none⟩), .pointer (some ⟨b3, 0, none⟩), .pointer (some ⟨b4, 0, none⟩), .pointer (some ⟨b5, 0, none⟩)].toArray]
theorem OnEnv.adv {M M' : List Nat} {w w' : World} {wk : Works} {spans : List (Int × Span)} {vso vx v1 v2 v4 : Value} {b1 b2 b3 b4 b5 bm : Nat} (h : OnEnv M w wk spans vso vx v1 v2 v4 b1 b2 b3 b4 b5 bm) (ha : Adv M M' w w') (hm : MLt M' w') : OnEnv M' w' wk spans vso vx v1 v2 v4 b1 b2 b3 b4 b5 bm :=
  ⟨hm, h.f0, h.f1.adv ha, h.f2.adv ha, h.f3, h.f4.adv ha, h.c1.adv ha, h.c2.adv ha, h.c3.adv ha, h.c4.adv ha, h.fm.adv ha, h.c5.adv ha⟩
section
variable {S : Type} {H : S → List Nat → World → Prop} (hH : Held H) {D : List Int → Prop} {G : S → Prop} {so : S → List Int → Bool × S} {lists : Nat → Option (List Int)} {wk : Works} {spans : List (Int × Span)} {vso vx v1 v2 v4 : Value} {b1 b2 b3 b4 b5 bm : Nat}
include hH
omit hH in
theorem on_fin {fn : Func} (hr : fn.results = [ResultVar.cell 7 4].toArray) {w : World} {fp : List Nat} {bt br : Nat} {t : Int} {x x' : List Int} {s' : S} {fp1 : List Nat} {b : Bool} {w2 : World} {L : Sx.Env} (h : Mid H vx w fp bt br t x' s' fp1 b w2) (hl : Sx.look L 7 = some (.pointer (some ⟨br, 0, none⟩))) (hx : b = false → x' = x) :
    FinM Try.prog fn (OnPost H vx fp x b s' w) [] L w2 :=
  FinM.of (fin_any hr (AllRs.cons (RsOk.one hl (h.rr.rd.cells.at 0 rfl) Try.isAgg4) AllRs.nil) rfl (h.post hx))
omit hH in
theorem res_on {fn : Func} (hr : fn.results = [ResultVar.cell 7 4].toArray) {N : Nat} {ds : List Deferred} {L : Sx.Env} {w : World} {br : Nat} {b : Bool} (h : Row 4 w br [.bool b]) (hl : Sx.look L 7 = some (.pointer (some ⟨br, 0, none⟩))) {a : Act} (ha : Knows N ds L a) : (results fn a.tmps).run Try.prog w = .ok (.bool b) w := by
  have h1 := (RsOk.one hl (h.rd.cells.at 0 rfl) Try.isAgg4 : RsOk Try.prog L w (.cell 7 4) (.bool b)).run ha
  rw [results_rd, hr]
  simp [h1]
theorem on_finD {fn : Func} (hr : fn.results = [ResultVar.cell 7 4].toArray) {w : World} {fp : List Nat} {bt br : Nat} {t : Int} {x x' : List Int} {s' : S} {fp1 : List Nat} {b : Bool} {w2 : World} {L : Sx.Env} {d : Nat} (h : Mid H vx w fp bt br t x' s' fp1 b w2) (hl : Sx.look L 7 = some (.pointer (some ⟨br, 0, none⟩))) (hx : b = false → x' = x) (hd : w2.heap[d]? = some (.deferred (some []))) (hwd : w.heap.size ≤ d) :
    FinM Try.prog fn (OnPost H vx fp x b s' w) [{ target := .collected d, args := #[] }] L w2 := by
  have h' := h.turn hH (grownBy_putObj' w2 d (.deferred none)) fun j e => by cases e; exact ⟨hwd, _, hd, rfl⟩
  exact .inr ⟨d, _, rfl, run_takeDeferred hd, .bool b, fun a ha => res_on hr h'.rr hl ha, h'.post hx⟩
omit hH in
theorem on_callV {t : Int} {w : World} {R : Ending → World → Prop} (h : Calls Try.prog 59 [Value.int .i64 t, .pointer (some ⟨b1, 0, none⟩), .pointer (some ⟨b2, 0, none⟩), .pointer (some ⟨b3, 0, none⟩), .pointer (some ⟨b4, 0, none⟩), .pointer (some ⟨b5, 0, none⟩)].toArray w R) :
    CallsV Try.prog (.func (.func 59) #[] [Value.pointer (some ⟨b1, 0, none⟩), .pointer (some ⟨b2, 0, none⟩), .pointer (some ⟨b3, 0, none⟩), .pointer (some ⟨b4, 0, none⟩), .pointer (some ⟨b5, 0, none⟩)].toArray) [Value.int .i64 t] w R :=
  CallsV.ofL Try.call59 rfl h
set_option maxRecDepth 100000 in
set_option maxHeartbeats 4000000 in
theorem on_ok (n : Nat) (hn : wk.model.traits = n) (hD : ∀ x, D x → x.length = n ∧ ∀ v ∈ x, InK .i64 v) (hset : ∀ t l v x, lists t = some l → v ∈ l → D x → D (x.set t v)) (hG : ∀ s x, G s → D x → (so s x).1 = false → G (so s x).2)
    (hlist : ∀ t, t < n → match lists t with | none => mget spans (t : Int) = none | some l => ∃ sp, mget spans (t : Int) = some sp ∧ P.score_works_stand wk t sp = some l ∧ l.length ≤ 1000000) :
    ∀ (k t : Nat) (x : List Int) (s : S) (w : World) (fp : List Nat), t + k = n → OnEnv (ob vx ++ fp) w wk spans vso vx v1 v2 v4 b1 b2 b3 b4 b5 bm → ClH Try.prog vso D G so H (ob vx ++ fp) w → H s fp w → Sx.Own (intE .i64) 3 0 [] w vx x → (∀ c ∈ ob vx, c ∉ fp) → G s → D x →
      Calls Try.prog 59 [Value.int .i64 t, .pointer (some ⟨b1, 0, none⟩), .pointer (some ⟨b2, 0, none⟩), .pointer (some ⟨b3, 0, none⟩), .pointer (some ⟨b4, 0, none⟩), .pointer (some ⟨b5, 0, none⟩)].toArray w (OnPost H vx fp x (onS so lists k t x s).1 (onS so lists k t x s).2 w) := by
  intro k
  induction k using Nat.strongRecOn with
  | _ k ih =>
  intro t x s w fp htk env hso hs hown hsep hg0 hd
  refine calls_cwM Try.func59 rfl Try.ntmps59 rfl ?_
  refine cw_seq ?_
  refine cw_regF ?_
  refine s_box rfl rfl rfl (fun bt w2 hbt ex2 hlt2 hRt => ?_)
  refine s_al Try.zeroValue4 rfl rfl (fun br w3 hbr ex3 hlt3 hRr => ?_)
  refine Reg.nil ?_
  have hold : ∀ c ∈ ob vx ++ fp, c < w.heap.size := env.mlt
  have e23 : Ext w w3 := ex2.trans ex3
  have hm : Mid H vx w fp bt br t x s fp false w3 :=
    ⟨Ext.kp e23, hH.kp hs fun b hb => e23.block b (hold b (List.mem_append_right _ hb)) (by simp), fun c hc => .inl hc, hown.int fun b hb => e23.block b (hold b (List.mem_append_left _ hb)) (by simp), hsep,
     (show Row 3 w2 bt _ from hRt).kp ex3 (by simp), hRr, by omega, by have := ex2.size; omega, by omega, fun hb => by have := hold bt hb; omega, fun hb => by have := hold br hb; have := ex2.size; omega⟩
  have env3 := env.adv hm.adv (hm.mlt hH)
  have hso3 := hso.adv hm.adv
  refine cw_seq ?_
  refine cw_seq ?_
  refine cw_regF ?_
  refine s_ld rfl (hm.rt.rd.cells.at 0 rfl) Try.isAgg3 rfl ?_
  refine s_fa rfl Try.underlying80 rfl Try.sizeOf25 rfl ?_
  refine s_fa rfl Try.underlying25 rfl Try.sizeOf3 rfl ?_
  refine s_ld rfl (env3.c1.cells.at 0 rfl) Try.isAgg3 rfl ?_
  refine s_eql rfl rfl rfl ?_
  refine Reg.nil ?_
  refine cw_cond rfl (fun hc => ?_) (fun hc => ?_)
  · have htn : (t : Int) = wk.model.traits := of_decide_eq_true hc
    obtain rfl : k = 0 := by omega
    refine cw_seq ?_
    refine cw_regF ?_
    refine s_ld rfl (env3.c2.cells.at 0 rfl) Try.isAgg97 rfl ?_
    refine s_ld rfl (env3.c3.cells.at 0 rfl) Try.isAgg26 rfl ?_
    refine s_callV rfl rfl rfl ?_
    refine (hso3.run (Kp.refl _ _) (fun c hc => .inl (List.mem_append_right _ hc)) hm.hs hg0 ((hm.own.int (M' := fp) fun _ _ => rfl).rd hm.sep) hd).mono ?_
    rintro _ w4 ⟨rfl, hk4, fp4, hs4, hn4⟩
    have hm4 := hm.call hH (hk4.mono fun c hc => .inl (List.mem_append_right _ hc)) hs4 hn4 (hm.own.int fun b hb => hk4.block b (by obtain ⟨_, _, _, h2⟩ := hm.own.isCells b hb; exact heap_lt h2) (hm.sep b hb))
    refine ⟨_, rfl, ?_⟩
    refine s_st rfl rfl rfl hm4.rr Try.sizeOf4 rfl rfl (one1 rfl one0) (fun w5 hr5 hk5 => ?_)
    have hm5 := hm4.stR hH hk5 hr5
    refine Reg.nil ?_
    refine cw_ret ?_
    exact on_fin Try.results59 hm5 rfl (fun _ => rfl)
  · have htn : ¬ (t : Int) = wk.model.traits := of_decide_eq_false hc
    obtain ⟨k, rfl⟩ : ∃ j, k = j + 1 := ⟨k - 1, by omega⟩
    have hlt : t < n := by omega
    have hl := hlist t hlt
    obtain ⟨hxl, hxin⟩ := hD x hd
    have hint0 : InK .i64 (t : Int) := by have h1 := env.f0; rw [InK.i64] at h1 ⊢; omega
    have hint : InK .i64 ((t + 1 : Nat) : Int) := by have h1 := env.f0; rw [InK.i64] at h1 ⊢; omega
    refine cw_skip ?_
    refine cw_seq ?_
    refine cw_regF ?_
    refine s_ld rfl (env3.c4.cells.at 0 rfl) Try.isAgg93 rfl ?_
    refine s_ld rfl (hm.rt.rd.cells.at 0 rfl) Try.isAgg3 rfl ?_
    refine s_mlk (z0 := Span.mk 0 0) env3.fm rfl rfl Try.underlying93 Try.underlying3 Try.zeroValue45 ⟨_, SpanE_R.2 ⟨rfl, by decide, by decide⟩, .inl ⟨rfl, rfl⟩⟩ rfl (fun v hv => ?_)
    obtain ⟨cs, hR, hv⟩ := hv
    obtain ⟨rfl, hlo, hhi⟩ := SpanE_R.1 hR
    obtain rfl := (hv.resolve_right fun h => by cases h.1).2
    refine s_mv rfl rfl ?_
    refine s_xt rfl rfl rfl ?_
    refine s_xt rfl rfl rfl ?_
    refine s_al Try.zeroValue45 rfl rfl (fun bs w4 hbs ex4 hlt4 hRs => ?_)
    have hRs' : Row 45 w4 bs [.int .i64 0, .int .i64 0] := hRs
    refine s_st rfl rfl rfl hRs' Try.sizeOf45 rfl rfl (one1 rfl (one1 rfl one0)) (fun w5 hr5 hk5 => ?_)
    have e35 : Ext w3 w5 := ex4.tail hk5 fun c hc => by
      have : c = bs := by simpa using hc
      omega
    have hm5 := hm.ext hH e35
    have env5 := env3.adv (Adv.of_ext e35) (hm5.mlt hH)
    have hso5 := hso3.adv (Adv.of_ext e35)
    refine s_as rfl rfl ?_
    refine Reg.nil ?_
    refine cw_seq ?_
    refine cw_seq ?_
    refine cw_regF ?_
    refine s_mv rfl rfl ?_
    refine s_not rfl rfl ?_
    refine Reg.nil ?_
    refine cw_cond rfl (fun hc2 => ?_) (fun hc2 => ?_)
    · have hnone : lists t = none ∧ mget spans (t : Int) = none := by
        cases hlt' : lists t with
        | none => rw [hlt'] at hl; exact ⟨rfl, hl⟩
        | some l =>
          rw [hlt'] at hl
          obtain ⟨sp, h1, _⟩ := hl
          rw [h1] at hc2; cases hc2
      have hon : onS so lists (k + 1) t x s = onS so lists k (t + 1) x s := by simp only [onS, hnone.1]
      rw [hon]
      refine cw_seq ?_
      refine cw_regF ?_
      refine s_ld rfl (env5.c5.cells.at 0 rfl) Try.isAgg84 rfl ?_
      refine s_ld rfl (hm5.rt.rd.cells.at 0 rfl) Try.isAgg3 rfl ?_
      refine p_add rfl rfl rfl (n := ((t + 1 : Nat) : Int)) ⟨by omega, hint⟩ ?_
      refine s_callV rfl rfl rfl ?_
      have hcall := ih k (by omega) (t + 1) x s w5 fp (by omega) env5 hso5 hm5.hs hm5.own hm5.sep hg0 hd
      refine (on_callV hcall).mono ?_
      rintro _ w6 ⟨rfl, hk6, fp6, x6, hs6, hn6, ho6, hx6⟩
      have hm6 := hm5.call hH hk6 hs6 hn6 ho6
      refine ⟨_, rfl, ?_⟩
      refine s_st rfl rfl rfl hm6.rr Try.sizeOf4 rfl rfl (one1 rfl one0) (fun w7 hr7 hk7 => ?_)
      have hm7 := hm6.stR hH hk7 hr7
      refine Reg.nil ?_
      refine cw_ret ?_
      exact on_fin Try.results59 hm7 rfl hx6
    · obtain ⟨l, hls, sp, hsp, hst, hll⟩ : ∃ l, lists t = some l ∧ ∃ sp, mget spans (t : Int) = some sp ∧ P.score_works_stand wk (t : Int) sp = some l ∧ l.length ≤ 1000000 := by
        cases hlt' : lists t with
        | none => rw [hlt'] at hl; rw [hl] at hc2; cases hc2
        | some l => rw [hlt'] at hl; exact ⟨l, rfl, hl⟩
      have hr5' : Row 45 w5 bs [.int .i64 sp.lo, .int .i64 sp.hi] := by rw [hsp] at hr5; exact hr5
      rw [hsp] at hlo hhi
      have hon : onS so lists (k + 1) t x s = runL (fun s v => onS so lists k (t + 1) (x.set t v) s) s l := by simp only [onS, hls]
      rw [hon]
      clear hr5 hsp
      have htx : t < x.length := by omega
      have hxt : x[t]? = some x[t] := List.getElem?_eq_getElem htx
      refine cw_skip ?_
      refine cw_seq ?_
      refine cw_regF ?_
      refine s_ld rfl (env5.c3.cells.at 0 rfl) Try.isAgg26 rfl ?_
      refine s_ld rfl (hm5.rt.rd.cells.at 0 rfl) Try.isAgg3 rfl ?_
      refine s_iaO rfl rfl hm5.own ⟨by omega, by omega⟩ Try.underlying26 Try.sizeOf3 rfl (fun g hg => ?_)
      obtain ⟨cs, hcR, hcC⟩ := hm5.own.cellsAt hg hxt
      obtain ⟨rfl, hxin'⟩ := intE_R.1 hcR
      refine s_ld rfl (hcC.at 0 rfl) Try.isAgg3 rfl ?_
      refine s_as rfl rfl ?_
      refine Reg.nil ?_
      refine cw_seq ?_
      refine cw_seq ?_
      refine cw_regF ?_
      refine s_lda rfl env5.c1.cells Try.isAgg80 rfl Try.sizeOf80 rfl ?_
      refine s_ld rfl (hm5.rt.rd.cells.at 0 rfl) Try.isAgg3 rfl ?_
      refine s_lda rfl hr5'.rd.cells Try.isAgg45 rfl Try.sizeOf45 rfl ?_
      refine s_call rfl Try.call60 rfl ?_
      refine (C_score_works_stand env5.mlt env5.f0 env5.f1 env5.f2 env5.f3 env5.f4 hint0 hlo hhi hst).mono ?_
      rintro _ w6 ⟨v6, rfl, hit, ex6⟩
      refine ⟨_, rfl, ?_⟩
      refine Reg.nil ?_
      have hm6 := hm5.ext hH ex6
      have env6 := env5.adv (Adv.of_ext ex6) (hm6.mlt hH)
      have hso6 := hso5.adv (Adv.of_ext ex6)
      obtain ⟨lb, rfl, hseq⟩ := values_stops Fence.wide 2 trivial rfl (by omega) hit (Subtype.val : {v // v ∈ l} → Int) l.attach (by simp) (by omega) (fun W W' => W.heap.size ≤ W'.heap.size ∧ ∀ b, b < w6.heap.size → b ∉ ob vx ++ fp → W'.heap[b]? = W.heap[b]?)
        (fun W => ⟨Nat.le_refl _, fun _ _ _ => rfl⟩) (fun h1 h2 => ⟨Nat.le_trans h1.1 h2.1, fun b hb hn => (h2.2 b hb hn).trans (h1.2 b hb hn)⟩)
        (fun {b} hb hlt {W W' j u} hk hc => by rw [World.cell?_of_block (w := W) (hk.2 _ hlt hb)]; exact hc)
      refine cw_block ?_
      refine cw_range (val := (Subtype.val : {v // v ∈ l} → Int)) rfl Try.call74 rfl hseq (fun h1 h2 => ⟨Nat.le_trans h1.1 h2.1, fun b hb hn => (h2.2 b hb hn).trans (h1.2 b hb hn)⟩) ?_
        (fun pre W => ∃ (u : Int) (s1 : S) (fp1 : List Nat), runL (fun s v => onS so lists k (t + 1) (x.set t v) s) s (pre.map Subtype.val) = (false, s1) ∧ G s1 ∧ Mid H vx w fp bt br t (x.set t u) s1 fp1 false W ∧ (∀ c ∈ fp1, c ∈ fp ∨ w6.heap.size ≤ c) ∧ w6.heap.size ≤ W.heap.size)
        (fun pre W => ∃ (x1 : List Int) (s1 : S) (fp1 : List Nat), runL (fun s v => onS so lists k (t + 1) (x.set t v) s) s (pre.map Subtype.val) = (true, s1) ∧ Mid H vx w fp bt br t x1 s1 fp1 true W) ?_ ?_ ?_
        (fun v L' W => Sub [(3, .pointer (some ⟨b3, 0, none⟩)), (5, .pointer (some ⟨b5, 0, none⟩)), (6, .pointer (some ⟨bt, 0, none⟩)), (7, .pointer (some ⟨br, 0, none⟩))] L' ∧ W.cell? ⟨g, t * (intE .i64).n + 0, none⟩ = some (.int .i64 v.val)) ?_ ?_ ?_ ?_ ?_
      · intro W l' o o' hl' hW _ _
        exact ⟨by simp, fun b hb _ => World.putObj_heap_other (by omega)⟩
      · rintro pre W W' row ⟨u, s1, fp1, h1, hg1, h2, h3, h4⟩ hg' hr
        exact ⟨u, s1, fp1, h1, hg1, h2.turn hH hg' (fun j e => ⟨by have := (hr j e).1; have := hm6.kp.size; omega, (hr j e).2⟩), h3, Nat.le_trans h4 hg'.size⟩
      · rintro pre W W' row ⟨x1, s1, fp1, h1, h2⟩ hg' hr
        exact ⟨x1, s1, fp1, h1, h2.turn hH hg' (fun j e => ⟨by have := (hr j e).1; have := hm6.kp.size; omega, (hr j e).2⟩)⟩
      · exact ⟨x[t], s, fp, rfl, hg0, by rw [List.set_getElem_self]; exact hm6, fun c hc => .inl hc, Nat.le_refl _⟩
      · rintro v L' _ W W' row ⟨h1, h2⟩ hg' hr
        refine ⟨h1, ?_⟩
        have hne : row ≠ some g := fun e => by
          obtain ⟨o, ho, hc⟩ := (hr g e).2
          simp only [World.cell?, ho] at h2
          cases o <;> simp_all [Obj.isCells]
        exact (World.cell?_of_block (w := W) (hg'.block g (cell_lt h2) (Ne.symm hne))).trans h2
      · rintro l' pre v W ⟨u, s1, fp1, hr1, hg1, hmW, hf1, hsz⟩
        have envW := env.adv hmW.adv (hmW.mlt hH)
        have hdv := hset t l v.val x hls v.2 hd
        have hinv : InK .i64 v.val := (hD _ hdv).2 _ (List.mem_of_getElem? (i := t) (by rw [List.getElem?_set_self htx]))
        refine ci_reg rfl ?_
        refine s_ld rfl (envW.c3.cells.at 0 rfl) Try.isAgg26 rfl ?_
        refine s_ld rfl (hmW.rt.rd.cells.at 0 rfl) Try.isAgg3 rfl ?_
        refine s_iaO rfl rfl hmW.own ⟨by omega, by rw [List.length_set]; omega⟩ Try.underlying26 Try.sizeOf3 rfl (fun g' hg' => ?_)
        have hgg : g' = g := by rw [hg] at hg'; simpa using hg'.symm
        subst hgg
        refine s_stO (E := intE .i64) (j := t) rfl rfl rfl hmW.own hg (by rw [List.length_set]; omega) (intE_R.2 ⟨rfl, hinv⟩) Try.sizeOf3 (fun W' ho hk => ?_)
        rw [List.set_set] at ho
        have hmW' := hmW.stX hH hk ho
        have hvt : (x.set t v.val)[t]? = some v.val := List.getElem?_set_self htx
        obtain ⟨cs, hcR', hcC'⟩ := ho.cellsAt hg hvt
        obtain ⟨rfl, _⟩ := intE_R.1 hcR'
        refine Reg.nil ⟨rfl, ⟨hk.size, fun k o hB hko hc => (hk.block k (heap_lt hko) fun hm => hmW.noncells hH hko hc (List.mem_append_left _ hm)).trans hko⟩, ⟨hk.size, fun b hb hn => hk.block b (by omega) fun hm => hn (List.mem_append_left _ hm)⟩,
          ⟨v.val, s1, fp1, hr1, hg1, hmW', hf1, Nat.le_trans hsz hk.size⟩, Sub.cons rfl (Sub.cons rfl (Sub.cons rfl (Sub.cons rfl (Sub.nil _)))), hcC'.at 0 rfl⟩
      · rintro l' pre v L' W ⟨u, s1, fp1, hr1, hg1, hmW, hf1, hsz⟩ ⟨hsub, hcell⟩ hlen
        refine ci_sub hsub ?_
        have hxu : (x.set t u)[t]? = some u := List.getElem?_set_self htx
        obtain ⟨cs, hcR', hcC'⟩ := hmW.own.cellsAt hg hxu
        obtain ⟨rfl, _⟩ := intE_R.1 hcR'
        have huv : u = v.val := by
          have h1 := hcC'.at 0 rfl
          rw [hcell] at h1
          injection h1 with h1
          injection h1 with _ h1
          exact h1.symm
        subst huv
        have envW := env.adv hmW.adv (hmW.mlt hH)
        have hsoW := hso.adv hmW.adv
        refine ci_block ?_
        refine ci_seq ?_
        refine ci_reg rfl ?_
        refine s_ld rfl (envW.c5.cells.at 0 rfl) Try.isAgg84 rfl ?_
        refine s_ld rfl (hmW.rt.rd.cells.at 0 rfl) Try.isAgg3 rfl ?_
        refine p_add rfl rfl rfl (n := ((t + 1 : Nat) : Int)) ⟨by omega, hint⟩ ?_
        refine s_callV rfl rfl rfl ?_
        have hcall := ih k (by omega) (t + 1) (x.set t v.val) s1 W fp1 (by omega) envW hsoW hmW.hs hmW.own hmW.sep hg1 (hset t l v.val x hls v.2 hd)
        refine (on_callV hcall).mono ?_
        rintro _ W4 ⟨rfl, hk4, fp4, x4, hs4, hn4, ho4, hx4⟩
        have hm4 := hmW.call hH hk4 hs4 hn4 ho4
        have hkeep : ∀ (k : Nat) (o : Obj), W.heap[k]? = some o → o.isCells = false → W4.heap[k]? = some o := fun k o hko hc => (hk4.block k (heap_lt hko) (hmW.noncells hH hko hc)).trans hko
        refine ⟨_, rfl, Reg.nil ?_⟩
        refine ci_cond rfl (fun hc => ?_) (fun hc => ?_)
        · refine ci_seq ?_
          refine ci_reg rfl ?_
          refine s_st rfl rfl rfl hm4.rr Try.sizeOf4 rfl rfl (one1 rfl one0) (fun W5 hr5 hk5 => ?_)
          have hm5' := hm4.stR hH hk5 hr5
          refine Reg.nil ?_
          refine ci_ret ?_
          refine ⟨⟨Nat.le_trans hk4.size hk5.size, fun k o hB hko hc' => ?_⟩, x4, _, fp4, ?_, hm5'⟩
          · have h1 := hkeep k o hko hc'
            refine (hk5.block k (heap_lt h1) fun hm => ?_).trans h1
            have : k = br := by simpa using hm
            subst this
            have h2 : W4.heap[k]? = _ := hm4.rr
            rw [h1] at h2
            cases h2; cases hc'
          · rw [List.map_append, List.map_singleton, runL_no hr1]
            exact Prod.ext hc rfl
        · refine ci_skip ?_
          refine ⟨⟨hk4.size, fun k o hB hko hc' => hkeep k o hko hc'⟩, ⟨hk4.size, fun b hb hn => hk4.block b (by omega) fun hm => ?_⟩, v.val, _, fp4, ?_, onS_G hG hset k (t + 1) _ _ (hset t l v.val x hls v.2 hd) hg1 hc, by rw [hx4 hc] at hm4; exact hm4, fun c hc' => ?_, Nat.le_trans hsz hk4.size⟩
          · rcases List.mem_append.1 hm with h1 | h1
            · exact hn (List.mem_append_left _ h1)
            · rcases hf1 b h1 with h2 | h2
              · exact hn (List.mem_append_right _ h2)
              · omega
          · rw [List.map_append, List.map_singleton, runL_no hr1]
            exact Prod.ext hc rfl
          · rcases hn4 c hc' with h1 | h1
            · exact hf1 c h1
            · exact .inr (Nat.le_trans hsz h1)
      · rintro d W hd' ⟨u, s1, fp1, hr1, hg1, hmW, hf1, hsz⟩ hdef
        have hr2 : runL (fun s v => onS so lists k (t + 1) (x.set t v) s) s l = (false, s1) := by rw [← hr1]; simp
        rw [hr2]
        have envW := env.adv hmW.adv (hmW.mlt hH)
        refine cw_seq ?_
        refine cw_regF ?_
        refine s_ld rfl (envW.c3.cells.at 0 rfl) Try.isAgg26 rfl ?_
        refine s_ld rfl (hmW.rt.rd.cells.at 0 rfl) Try.isAgg3 rfl ?_
        refine s_mv rfl rfl ?_
        refine s_iaO rfl rfl hmW.own ⟨by omega, by rw [List.length_set]; omega⟩ Try.underlying26 Try.sizeOf3 rfl (fun g' hg' => ?_)
        have hgg : g' = g := by rw [hg] at hg'; simpa using hg'.symm
        subst hgg
        refine s_stO (E := intE .i64) (j := t) rfl rfl rfl hmW.own hg (by rw [List.length_set]; omega) (intE_R.2 ⟨rfl, hxin'⟩) Try.sizeOf3 (fun W2 ho hk => ?_)
        rw [List.set_set, List.set_getElem_self] at ho
        have hm2 := hmW.stX hH hk ho
        have hd2 : W2.heap[d]? = some (.deferred (some [])) := (hk.block d (heap_lt hdef) fun hm => hmW.noncells hH hdef rfl (List.mem_append_left _ hm)).trans hdef
        refine Reg.nil ?_
        refine cw_seq ?_
        refine cw_regF ?_
        refine s_st rfl rfl rfl hm2.rr Try.sizeOf4 rfl rfl (one1 rfl one0) (fun W3 hr3 hk3 => ?_)
        have hm3 := hm2.stR hH hk3 hr3
        have hd3 : W3.heap[d]? = some (.deferred (some [])) := by
          refine (hk3.block d (heap_lt hd2) fun hm => ?_).trans hd2
          have : d = br := by simpa using hm
          subst this
          have h2 : W2.heap[d]? = _ := hm2.rr
          rw [hd2] at h2; cases h2
        refine Reg.nil ?_
        refine cw_ret ?_
        exact on_finD hH Try.results59 hm3 rfl (fun _ => rfl) hd3 (Nat.le_trans hm6.kp.size hd')
      · rintro d pre W hd' hpre ⟨x1, s1, fp1, hr1, hmW⟩ hdef
        have hp2 : pre.map Subtype.val <+: l := by
          have := hpre.map (Subtype.val : {v // v ∈ l} → Int)
          simpa using this
        rw [runL_yes hr1 hp2]
        exact on_finD hH Try.results59 hmW rfl (fun h => by cases h) hdef (Nat.le_trans hm6.kp.size hd')
end
end Go.Proofs.Ytecmlmngcnionaa
namespace Go.Proofs.Ytecmlmngcnionaa
open Go Go.Sx Go.RowKit
set_option maxRecDepth 100000 in
set_option maxHeartbeats 4000000 in
theorem try_ok {S : Type} {H : S → List Nat → World → Prop} (hH : Held H) {D : List Int → Prop} {G : S → Prop} {so : S → List Int → Bool × S} {lists : Nat → Option (List Int)} {wk : Works} {spans : List (Int × Span)} {vso v0 v1 v2 v4 : Value} {bm : Nat}
    (n : Nat) (hn : wk.model.traits = n) (hD : ∀ x, D x → x.length = n ∧ ∀ v ∈ x, InK .i64 v) (hset : ∀ t l v x, lists t = some l → v ∈ l → D x → D (x.set t v)) (hG : ∀ s x, G s → D x → (so s x).1 = false → G (so s x).2)
    (hlist : ∀ t, t < n → match lists t with | none => mget spans (t : Int) = none | some l => ∃ sp, mget spans (t : Int) = some sp ∧ P.score_works_stand wk t sp = some l ∧ l.length ≤ 1000000)
    (hn6 : n ≤ 1000000) {M : List Nat} {w : World} (hM : MLt M w) (f0 : InK IntKind.i64 wk.model.traits) (f1 : RdS CardE M w v1 wk.model.cards) (f2 : RdS TreeE M w v2 wk.model.trees) (f3 : InK IntKind.i64 wk.model.need) (f4 : RdS I87E M w v4 wk.parts)
    {x : List Int} (fx : RdS (intE .i64) M w v0 x) (fm : RdM SpanE true .i64 M w bm spans) (kso : vso.cells = [vso].toArray ∧ vso.oneCell' = true) {fp : List Nat} {s : S} (hso : ClH Try.prog vso D G so H M w) (hs : H s fp w) (hfp : ∀ c ∈ fp, c ∈ M) (hg : G s) (hd : D x) :
    Calls Try.prog 44 [Value.agg [Value.int IntKind.i64 wk.model.traits, v1, v2, Value.int IntKind.i64 wk.model.need, v4].toArray, v0, .map (some bm), vso].toArray w fun e w' =>
      e = .returned (.bool (onS so lists n 0 x s).1) ∧ Kp fp w w' ∧ ∃ fp', H (onS so lists n 0 x s).2 fp' w' ∧ ∀ c ∈ fp', c ∈ fp ∨ w.heap.size ≤ c := by
  have hI := Hp.start (Mu := []) hM
  obtain ⟨hxl, hxi⟩ := hD x hd
  refine calls_cw Try.func44 rfl Try.ntmps44 rfl ?_
  refine cw_seq ?_
  refine cw_regF ?_
  refine y_box hI rfl rfl rfl (fun b1 w1 hI1 a1 => ?_)
  refine y_box hI1 rfl (RdS.cells1 fx) rfl (fun b3 w2 hI2 a2 => ?_)
  refine y_box hI2 rfl rfl rfl (fun b4 w3 hI3 a3 => ?_)
  refine y_box hI3 rfl kso.1 rfl (fun b2 w4 hI4 a4 => ?_)
  refine s_as rfl rfl ?_
  refine Reg.nil ?_
  have a14 := a1.trans (a2.trans (a3.trans a4))
  refine cw_seq ?_
  refine cw_regF ?_
  refine y_al hI4 Try.zeroValue84 rfl rfl (fun b5 w5 hI5 a5 => ?_)
  refine Reg.nil ?_
  have a15 := a14.trans a5
  refine cw_seq ?_
  refine cw_regF ?_
  refine s_ld rfl ((hI5.row 3 rfl).rd.cells.at 0 rfl) Try.isAgg26 rfl ?_
  refine s_call rfl Try.call58 rfl ?_
  refine (C_slices_Clone_58 hI5.mlt (fx.adv a15) (Go.Proofs.Ytecmlmngcnionaa.S.p_clone x (by omega))).mono ?_
  rintro _ w6 ⟨vx, rfl, hox, ex6⟩
  refine ⟨_, rfl, ?_⟩
  have hI6 := hI5.addOwn ex6 hox
  refine y_st 4 hI6 rfl rfl rfl (Own.cells1 hox.1) Try.sizeOf26 rfl rfl (one1 (Own.oneC hox.1) one0) (fun w7 hI7 a7 => ?_)
  refine Reg.nil ?_
  refine cw_seq ?_
  refine cw_regF ?_
  refine s_mf rfl rfl ?_
  refine y_st 1 hI7 rfl rfl rfl rfl Try.sizeOf84 rfl rfl (one1 rfl one0) (fun w8 hI8 a8 => ?_)
  refine Reg.nil ?_
  have a16 := a15.trans (hI5.addOwnA ex6 hox)
  have a18 := a16.trans (a7.trans a8)
  refine cw_seq ?_
  refine cw_regF ?_
  refine s_ld rfl ((hI8.row 1 rfl).rd.cells.at 0 rfl) Try.isAgg84 rfl ?_
  refine s_callV rfl rfl rfl ?_
  have hown8 := hI8.ownAt 0 rfl
  have hin0 : ∀ b ∈ ob vx, b ∈ mm [ownR [] (intE .i64) 3 vx x] M := fun b hb => mem_mm.2 (.inl ⟨_, List.mem_cons_self .., hb⟩)
  have hnew : ∀ b ∈ ob vx, w.heap.size ≤ b := (hI8.ownOut 0 rfl).2
  have hsep : ∀ b ∈ ob vx, b ∉ M := fun b hb hb' => by
    have h1 := hnew b hb
    have h2 := hM b hb'
    omega
  have hsub : ∀ (τ : List Res), ∀ b ∈ ob vx ++ fp, b ∈ mm (ownR [] (intE .i64) 3 vx x :: τ) M := fun τ b hb => by
    rcases List.mem_append.1 hb with h1 | h1
    · exact mem_mm.2 (.inl ⟨_, List.mem_cons_self .., h1⟩)
    · exact mem_mm.2 (.inr (hfp b h1))
  have a19 := a18.trans (Adv.drop (hsub _))
  have env : OnEnv (ob vx ++ fp) w8 wk spans vso vx v1 v2 v4 b1 b2 b3 b4 b5 bm :=
    ⟨fun b hb => hI8.mlt b (hsub _ b hb), f0, f1.adv a19, f2.adv a19, f3, f4.adv a19, (hI8.freezeRow 5 rfl).adv (Adv.drop (hsub _)), (hI8.freezeRow 2 rfl).adv (Adv.drop (hsub _)), (hI8.freezeRow 4 rfl).adv (Adv.drop (hsub _)), (hI8.freezeRow 3 rfl).adv (Adv.drop (hsub _)), fm.adv a19, (hI8.freezeRow 1 rfl).adv (Adv.drop (hsub _))⟩
  have hcall := on_ok hH n hn hD hset hG hlist n 0 x s w8 fp (by omega) env (hso.adv a19) (hH.kp hs fun b hb => hI8.kp.block b (hM b (hfp b hb)) (by simp)) (hown8.int fun _ _ => rfl) (fun c hc hc' => hsep c hc (hfp c hc')) hg hd
  refine (on_callV hcall).mono ?_
  rintro _ w9 ⟨rfl, hk9, fp9, x9, hs9, hn9, ho9, hx9⟩
  refine ⟨_, rfl, ?_⟩
  refine s_as rfl rfl ?_
  refine Reg.nil ?_
  refine cw_ret ?_
  refine fin1 Try.results44 rfl ⟨rfl, (Ext.kp hI8.kp).tail hk9 fun c hc => ?_, fp9, hs9, fun c hc => ?_⟩
  · rcases List.mem_append.1 hc with h1 | h1
    · exact .inr (hnew c h1)
    · exact .inl h1
  · rcases hn9 c hc with h1 | h1
    · exact .inl h1
    · exact .inr (Nat.le_trans hI8.kp.size h1)
end Go.Proofs.Ytecmlmngcnionaa
namespace Go.Proofs.Ytecmlmngcnionaa
open Go Go.Sx Go.RowKit
/-- The state: whether it is the first score; the least and the greatest one. -/
def HB (bf be : Nat) (s : Bool × Int × Int) (fp : List Nat) (w : World) : Prop := fp = [bf, be] ∧ Row 4 w bf [.bool s.1] ∧ Row 95 w be [.int .i64 s.2.1, .int .i64 s.2.2] ∧ InK .i64 s.2.1 ∧ InK .i64 s.2.2
def updB (s : Bool × Int × Int) (n : Int) : Bool × Int × Int := (false, min (if s.1 then n else s.2.1) n, max (if s.1 then n else s.2.2) n)
theorem heldB (bf be : Nat) : Held (HB bf be) := by
  refine ⟨?_, ?_⟩
  · rintro s fp w ⟨rfl, h1, h2, _⟩ b hb
    rcases List.mem_cons.1 hb with rfl | hb
    · exact ⟨_, _, _, h1⟩
    · have : b = be := by simpa using hb
      subst this; exact ⟨_, _, _, h2⟩
  · rintro s fp w w' ⟨rfl, h1, h2, h3⟩ hb
    exact ⟨rfl, (hb bf (by simp)).trans h1, (hb be (by simp)).trans h2, h3⟩
set_option maxRecDepth 100000 in
set_option maxHeartbeats 4000000 in
theorem between1 {M : List Nat} {w1 : World} {wk : Works} {v1 v2 v4 : Value} {bw bf be : Nat} {D : List Int → Prop} {sc : List Int → Int} (f0 : InK IntKind.i64 wk.model.traits) (f1 : RdS CardE M w1 v1 wk.model.cards) (f2 : RdS TreeE M w1 v2 wk.model.trees) (f3 : InK IntKind.i64 wk.model.need) (f4 : RdS I87E M w1 v4 wk.parts)
    (c1 : RdC M w1 bw 0 [.int .i64 wk.model.traits, v1, v2, .int .i64 wk.model.need, v4]) (hbe : bf ≠ be) (hD : ∀ x, D x → P.score_works_score wk x = some (sc x)) :
    ClH Try.prog (.func (.func 45) #[] [Value.pointer (some ⟨bw, 0, none⟩), .pointer (some ⟨bf, 0, none⟩), .pointer (some ⟨be, 0, none⟩)].toArray) D (fun _ => True) (fun s x => (false, updB s (sc x))) (HB bf be) M w1 := by
  refine ⟨?_⟩
  rintro w fp s x v hk hfp ⟨rfl, hrf, hre, hia, hib⟩ _ hx hd
  have adv : Adv M [bf, be] w1 w := ⟨hk, hfp⟩
  have hM : MLt [bf, be] w := fun b hb => by
    rcases List.mem_cons.1 hb with rfl | hb
    · exact hrf.rd.lt
    · have : b = be := by simpa using hb
      subst this; exact hre.rd.lt
  refine CallsV.ofL Try.call45 rfl ?_
  refine calls_cw Try.func45 rfl Try.ntmps45 rfl ?_
  refine cw_seq ?_
  refine cw_regF ?_
  refine s_as rfl rfl ?_
  refine Reg.nil ?_
  refine cw_seq ?_
  refine cw_regF ?_
  refine s_lda rfl (c1.adv adv).cells Try.isAgg80 rfl Try.sizeOf80 rfl ?_
  refine s_mv rfl rfl ?_
  refine s_call rfl Try.call32 rfl ?_
  refine (C_score_works_score hM f0 (f1.adv adv) (f2.adv adv) f3 (f4.adv adv) hx (hD x hd)).mono ?_
  rintro _ w2 ⟨rfl, hin, ex2⟩
  refine ⟨_, rfl, ?_⟩
  refine s_as rfl rfl ?_
  refine Reg.nil ?_
  have hrf2 := hrf.kp ex2 (by simp)
  have hre2 := hre.kp ex2 (by simp)
  have hkk : Kp [bf, be] w w2 := Ext.kp ex2
  refine cw_seq ?_
  refine cw_seq ?_
  refine cw_regF ?_
  refine s_ld rfl (hrf2.rd.cells.at 0 rfl) Try.isAgg4 rfl ?_
  refine Reg.nil ?_
  obtain ⟨first, a, b⟩ := s
  refine cw_cond rfl (fun hc => ?_) (fun hc => ?_)
  · obtain rfl : first = true := hc
    refine cw_seq ?_
    refine cw_regF ?_
    refine s_mv rfl rfl ?_
    refine s_mv rfl rfl ?_
    refine s_bda2 Try.zeroValue95 rfl Try.underlying95 Try.sizeOf3 rfl rfl rfl rfl rfl ?_
    refine s_st rfl rfl rfl hre2 Try.sizeOf95 rfl rfl (one1 rfl (one1 rfl one0)) (fun w3 hr3 hk3 => ?_)
    refine Reg.nil ?_
    have hre3 : Row 95 w3 be [.int .i64 (sc x), .int .i64 (sc x)] := hr3
    have hrf3 := hrf2.kp hk3 (by simpa using hbe)
    refine cw_regF ?_
    refine s_st rfl rfl rfl hrf3 Try.sizeOf4 rfl rfl (one1 rfl one0) (fun w4 hr4 hk4 => ?_)
    refine Reg.nil ?_
    have hrf4 : Row 4 w4 bf [.bool false] := hr4
    have hre4 := hre3.kp hk4 (by simpa using Ne.symm hbe)
    have hk24 : Kp [bf, be] w w4 := (hkk.trans (hk3.mono (by simp))).trans (hk4.mono (by simp))
    refine cw_seq ?_
    refine cw_regF ?_
    refine s_iarr 0 rfl rfl Try.underlying95 (by decide) Try.sizeOf3 rfl ?_
    refine s_ld rfl (hre4.rd.cells.at 0 rfl) Try.isAgg3 rfl ?_
    refine s_mv rfl rfl ?_
    refine s_min rfl rfl rfl ?_
    refine s_iarr 1 rfl rfl Try.underlying95 (by decide) Try.sizeOf3 rfl ?_
    refine s_ld rfl (hre4.rd.cells.at 1 rfl) Try.isAgg3 rfl ?_
    refine s_mv rfl rfl ?_
    refine s_max rfl rfl rfl ?_
    refine s_bda2 Try.zeroValue95 rfl Try.underlying95 Try.sizeOf3 rfl rfl rfl rfl rfl ?_
    refine s_st rfl rfl rfl hre4 Try.sizeOf95 rfl rfl (one1 rfl (one1 rfl one0)) (fun w9 hr9 hk9 => ?_)
    refine Reg.nil ?_
    refine cw_seq ?_
    refine cw_regF ?_
    refine s_as rfl rfl ?_
    refine Reg.nil ?_
    refine cw_ret ?_
    have hrf9 := hrf4.kp hk9 (by simpa using hbe)
    refine fin1 Try.results45 rfl ⟨rfl, hk24.trans (hk9.mono (by simp)), [bf, be], ⟨rfl, hrf9, hr9, InK.imin hin hin, InK.imax hin hin⟩, fun c hc => .inl hc⟩
  · obtain rfl : first = false := hc
    refine cw_skip ?_
    refine cw_seq ?_
    refine cw_regF ?_
    refine s_iarr 0 rfl rfl Try.underlying95 (by decide) Try.sizeOf3 rfl ?_
    refine s_ld rfl (hre2.rd.cells.at 0 rfl) Try.isAgg3 rfl ?_
    refine s_mv rfl rfl ?_
    refine s_min rfl rfl rfl ?_
    refine s_iarr 1 rfl rfl Try.underlying95 (by decide) Try.sizeOf3 rfl ?_
    refine s_ld rfl (hre2.rd.cells.at 1 rfl) Try.isAgg3 rfl ?_
    refine s_mv rfl rfl ?_
    refine s_max rfl rfl rfl ?_
    refine s_bda2 Try.zeroValue95 rfl Try.underlying95 Try.sizeOf3 rfl rfl rfl rfl rfl ?_
    refine s_st rfl rfl rfl hre2 Try.sizeOf95 rfl rfl (one1 rfl (one1 rfl one0)) (fun w9 hr9 hk9 => ?_)
    refine Reg.nil ?_
    refine cw_seq ?_
    refine cw_regF ?_
    refine s_as rfl rfl ?_
    refine Reg.nil ?_
    refine cw_ret ?_
    have hrf9 := hrf2.kp hk9 (by simpa using hbe)
    refine fin1 Try.results45 rfl ⟨rfl, hkk.trans (hk9.mono (by simp)), [bf, be], ⟨rfl, hrf9, hr9, InK.imin hia hin, InK.imax hib hin⟩, fun c hc => .inl hc⟩
end Go.Proofs.Ytecmlmngcnionaa
namespace Go.Proofs.Ytecmlmngcnionaa
open Go Go.Sx
namespace S
def okSpan (s : Span) : Bool := decide (0 ≤ s.lo ∧ s.lo ≤ 1000000 ∧ 0 ≤ s.hi ∧ s.hi ≤ 1000000 ∧ s.lo ≤ s.hi)
def listsOf (m : Model) (x : List Span) (t : Nat) : Option (List Int) := (x[t]?).map (stepsS m t)
def endsOf (m : Model) (x : List Span) : Bool × Int × Int := (onS (fun s x => (false, updB s (score m x))) (listsOf m x) x.length 0 (List.replicate x.length 0) (true, 0, 0)).2
def betweenS (m : Model) (x : List Span) : Span × Int :=
  if modelOk m = false then (Span.mk 0 0, 60) else if ¬ (x.length : Int) = m.traits then (Span.mk 0 0, 61) else if x.all okSpan then (Span.mk (endsOf m x).2.1 (endsOf m x).2.2, 0) else (Span.mk 0 0, 61)
/-- The map of the first i spans. -/
def mapTo (x : List Span) (i : Nat) : List (Int × Span) := (x.take i).zipIdx.map fun p => ((p.2 : Int), p.1)
theorem mget_zip : ∀ (l : List Span) (k t : Nat), mget ((l.zipIdx k).map fun p => ((p.2 : Int), p.1)) (t : Int) = if k ≤ t then l[t - k]? else none
  | [], k, t => by simp [mget]
  | a :: l, k, t => by
    rw [List.zipIdx_cons, List.map_cons]
    unfold mget
    by_cases h : (k : Int) = (t : Int)
    · have : k = t := by omega
      subst this
      simp
    · simp only [h, if_false]
      rw [mget_zip l (k + 1) t]
      by_cases h1 : k + 1 ≤ t
      · rw [if_pos h1, if_pos (by omega), show t - k = (t - (k + 1)) + 1 by omega, List.getElem?_cons_succ]
      · rw [if_neg h1, if_neg (by omega)]
theorem mget_mapTo (x : List Span) (i t : Nat) : mget (mapTo x i) (t : Int) = (x.take i)[t]? := by
  unfold mapTo
  rw [mget_zip]; simp
theorem mput_new {α : Type} : ∀ {l : List (Int × α)} {k : Int} {z : α}, mget l k = none → mput l k z = l ++ [(k, z)]
  | [], k, z, _ => rfl
  | (a, y) :: r, k, z, h => by
    unfold mget at h
    split at h
    · cases h
    · rename_i hne
      unfold mput
      rw [if_neg hne, mput_new h]; rfl
theorem mput_mapTo {x : List Span} {i : Nat} {s : Span} (h : x[i]? = some s) : mput (mapTo x i) (i : Int) s = mapTo x (i + 1) := by
  rw [mput_new (by rw [mget_mapTo, List.getElem?_take, if_neg (by omega)])]
  unfold mapTo
  have hl := get_lt h
  rw [List.take_add_one, h, Option.toList_some, List.zipIdx_append, List.map_append]
  congr 1
  simp [List.length_take, Nat.min_eq_left (Nat.le_of_lt hl)]
/-- What the program makes of a part's cuts. -/
def cutsOf (trait : Nat) : I87 → List Int
  | .c105 c => ((c.scales[trait]?).map (·.cuts)).getD []
  | .c106 t => (t.nodes.filter fun n => decide (n.trait = (trait : Int))).map (·.cut)
end S
end Go.Proofs.Ytecmlmngcnionaa
namespace Go.Proofs.Ytecmlmngcnionaa
open Go Go.Sx
namespace S
def fitPart (trait : Nat) : I87 → Prop
  | .c105 c => ∃ sc, c.scales[trait]? = some sc ∧ sc.cuts.length ≤ 7
  | .c106 t => t.nodes.length ≤ 7
theorem cutsOf_len {trait : Nat} : ∀ {p : I87}, fitPart trait p → (cutsOf trait p).length ≤ 7
  | .c105 c, ⟨sc, h1, h2⟩ => by simp only [cutsOf, h1, Option.map_some, Option.getD_some]; exact h2
  | .c106 t, h => by
    have h : t.nodes.length ≤ 7 := h
    have := List.length_filter_le (fun n : Node => decide (n.trait = (trait : Int))) t.nodes
    simp only [cutsOf, List.length_map]; omega
theorem cuts_len {trait : Nat} : ∀ (l : List I87), (∀ p ∈ l, fitPart trait p) → (l.flatMap (cutsOf trait)).length ≤ 7 * l.length
  | [], _ => by simp
  | p :: l, h => by
    have h1 := cutsOf_len (h p (List.mem_cons_self ..))
    have h2 := cuts_len l fun q hq => h q (List.mem_cons_of_mem _ hq)
    simp only [List.flatMap_cons, List.length_append, List.length_cons]; omega
theorem p_nodes (t : Tree) (trait : Nat) (l0 : List Int) (ht : t.nodes.length ≤ 7) (hl : l0.length ≤ 1000) :
    loopM (S := (List Int) × Int) (R := ((List Int))) (fun (x77, x78) => cond (decide (x78 < (t.nodes.length : Int))) (Option.bind (Option.bind (ixo t.nodes x78) fun y80 => Option.bind (cond (decide (y80.trait = (trait : Int))) (Option.bind (appo 8 x77 ([y80.cut] : List Int)) fun l107 => some l107) (some x77)) fun x112 => some x112) fun x113 => Option.bind (chk .i64 (x78 + 1)) fun n114 => some (.inl (x113, n114))) (some (.inr x77))) (l0, 0) = some (l0 ++ cutsOf trait (.c106 t)) := by
  have hF : ∀ i, (l0 ++ ((t.nodes.take i).filter fun n => decide (n.trait = (trait : Int))).map (·.cut)).length ≤ l0.length + 7 := fun i => by
    have h1 := List.length_filter_le (fun n : Node => decide (n.trait = (trait : Int))) (t.nodes.take i)
    have h2 : (t.nodes.take i).length ≤ 7 := by rw [List.length_take]; omega
    simp only [List.length_append, List.length_map]; omega
  have := loop_fold t.nodes.length (fun i => l0 ++ ((t.nodes.take i).filter fun n => decide (n.trait = (trait : Int))).map (·.cut)) (l0 ++ cutsOf trait (.c106 t))
    (body := (fun (x77, x78) => cond (decide (x78 < (t.nodes.length : Int))) (Option.bind (Option.bind (ixo t.nodes x78) fun y80 => Option.bind (cond (decide (y80.trait = (trait : Int))) (Option.bind (appo 8 x77 ([y80.cut] : List Int)) fun l107 => some l107) (some x77)) fun x112 => some x112) fun x113 => Option.bind (chk .i64 (x78 + 1)) fun n114 => some (.inl (x113, n114))) (some (.inr x77))))
    (fun i hi => by
      have hy := List.getElem?_eq_getElem hi
      have h3 := hF i
      have hT : ∀ e : t.nodes[i].trait = (trait : Int), l0 ++ ((t.nodes.take (i + 1)).filter fun n => decide (n.trait = (trait : Int))).map (·.cut) = (l0 ++ ((t.nodes.take i).filter fun n => decide (n.trait = (trait : Int))).map (·.cut)) ++ [t.nodes[i].cut] := fun e => by
        rw [List.take_add_one, hy, Option.toList_some, List.filter_append, List.map_append, List.filter_cons_of_pos (p := fun n : Node => decide (n.trait = (trait : Int))) (decide_eq_true e), List.append_assoc]; rfl
      have hN : ∀ e : ¬ t.nodes[i].trait = (trait : Int), l0 ++ ((t.nodes.take (i + 1)).filter fun n => decide (n.trait = (trait : Int))).map (·.cut) = l0 ++ ((t.nodes.take i).filter fun n => decide (n.trait = (trait : Int))).map (·.cut) := fun e => by
        rw [List.take_add_one, hy, Option.toList_some, List.filter_append, List.map_append, List.filter_cons_of_neg (p := fun n : Node => decide (n.trait = (trait : Int))) (by simpa using e), List.filter_nil, List.map_nil, List.append_nil]
      simp only [lt_cast hi, condT]
      rw [ixo_at hy, bindS]
      by_cases e : t.nodes[i].trait = (trait : Int)
      · rw [hT e, decide_eq_true e, condT, appo_ok (by simp only [List.length_singleton]; omega) (by simp only [List.length_singleton]; omega), bindS, bindS, bindS, chk_nat (by omega), bindS]
      · rw [hN e, decide_eq_false e, condF, bindS, bindS, chk_nat (by omega), bindS]) (by simp only [not_lt_cast, condF, List.take_length]; rfl)
  simpa using this
theorem p_cuts (parts : List I87) (trait : Nat) (s : Span) (hp : ∀ p ∈ parts, fitPart trait p) (hl : parts.length ≤ 12) :
    loopM (S := (List Int) × Int) (R := ((List Int))) (fun (x17, x18) => cond (decide (x18 < (parts.length : Int))) (Option.bind (Option.bind (ixo parts x18) fun y20 => Option.bind (Option.bind (cond (I87.is105 y20) (Option.bind (ixo ((I87.as105 y20).scales) (trait : Int)) fun y45 => Option.bind (appo 8 x17 y45.cuts) fun l56 => some l56) (Option.bind (cond (I87.is106 y20) (Option.bind (loopM (S := (List Int) × Int) (R := ((List Int))) (fun (x77, x78) => cond (decide (x78 < (((I87.as106 y20).nodes).length : Int))) (Option.bind (Option.bind (ixo ((I87.as106 y20).nodes) x78) fun y80 => Option.bind (cond (decide (y80.trait = (trait : Int))) (Option.bind (appo 8 x77 ([y80.cut] : List Int)) fun l107 => some l107) (some x77)) fun x112 => some x112) fun x113 => Option.bind (chk .i64 (x78 + 1)) fun n114 => some (.inl (x113, n114))) (some (.inr x77))) (x17, 0)) fun x115 => some x115) (some x17)) fun x116 => some x116)) fun x117 => some x117) fun x118 => some x118) fun x119 => Option.bind (chk .i64 (x18 + 1)) fun n120 => some (.inl (x119, n120))) (some (.inr x17))) (([s.lo] : List Int), 0) = some (s.lo :: parts.flatMap (cutsOf trait)) := by
  have hF : ∀ i, (s.lo :: (parts.take i).flatMap (cutsOf trait)).length ≤ 1 + 7 * 12 := fun i => by
    have h1 := cuts_len (parts.take i) fun p h => hp p (List.mem_of_mem_take h)
    have h2 : (parts.take i).length ≤ 12 := by rw [List.length_take]; omega
    simp only [List.length_cons]; omega
  have := loop_fold parts.length (fun i => s.lo :: (parts.take i).flatMap (cutsOf trait)) (s.lo :: parts.flatMap (cutsOf trait))
    (body := (fun (x17, x18) => cond (decide (x18 < (parts.length : Int))) (Option.bind (Option.bind (ixo parts x18) fun y20 => Option.bind (Option.bind (cond (I87.is105 y20) (Option.bind (ixo ((I87.as105 y20).scales) (trait : Int)) fun y45 => Option.bind (appo 8 x17 y45.cuts) fun l56 => some l56) (Option.bind (cond (I87.is106 y20) (Option.bind (loopM (S := (List Int) × Int) (R := ((List Int))) (fun (x77, x78) => cond (decide (x78 < (((I87.as106 y20).nodes).length : Int))) (Option.bind (Option.bind (ixo ((I87.as106 y20).nodes) x78) fun y80 => Option.bind (cond (decide (y80.trait = (trait : Int))) (Option.bind (appo 8 x77 ([y80.cut] : List Int)) fun l107 => some l107) (some x77)) fun x112 => some x112) fun x113 => Option.bind (chk .i64 (x78 + 1)) fun n114 => some (.inl (x113, n114))) (some (.inr x77))) (x17, 0)) fun x115 => some x115) (some x17)) fun x116 => some x116)) fun x117 => some x117) fun x118 => some x118) fun x119 => Option.bind (chk .i64 (x18 + 1)) fun n120 => some (.inl (x119, n120))) (some (.inr x17))))
    (fun i hi => by
      have hy := List.getElem?_eq_getElem hi
      have h3 := hF i
      have hg := hp parts[i] (List.getElem_mem hi)
      have htk : (s.lo :: (parts.take (i + 1)).flatMap (cutsOf trait)) = (s.lo :: (parts.take i).flatMap (cutsOf trait)) ++ cutsOf trait parts[i] := by
        rw [List.take_add_one, hy, Option.toList_some, List.flatMap_append, List.flatMap_cons, List.flatMap_nil, List.append_nil]; rfl
      rw [htk]
      dsimp only
      rw [lt_cast hi, condT, ixo_at hy, bindS]
      cases hpi : parts[i] with
      | c105 c =>
        rw [hpi] at hg
        obtain ⟨sc, h1, h2⟩ := hg
        have e1 : I87.is105 (.c105 c) = true := rfl
        have e2 : I87.as105 (.c105 c) = c := rfl
        have e3 : cutsOf trait (.c105 c) = sc.cuts := by simp [cutsOf, h1]
        rw [e1, condT, e2, ixo_at h1, bindS, appo_ok (by omega) (by omega), bindS, bindS, bindS, bindS, chk_nat (by omega), bindS, e3]
      | c106 t =>
        rw [hpi] at hg
        have hg : t.nodes.length ≤ 7 := hg
        have e1 : I87.is105 (.c106 t) = false := rfl
        have e2 : I87.is106 (.c106 t) = true := rfl
        have e3 : I87.as106 (.c106 t) = t := rfl
        rw [e1, condF, e2, condT, e3, p_nodes t trait _ hg (by omega), bindS, bindS, bindS, bindS, bindS, chk_nat (by omega), bindS]) (by simp only [not_lt_cast, condF, List.take_length])
  simpa using this
theorem fit_parts (m : Model) (trait : Nat) (hm : modelOk m = true) (ht : (trait : Int) < m.traits) : ∀ p ∈ partsOf m, fitPart trait p := by
  obtain ⟨hm1, hm2, hm3, hm4, hm5, hm6, hm7⟩ := modelOk_iff.1 hm
  intro p hp
  rcases List.mem_append.1 hp with h | h
  · obtain ⟨c, hc, rfl⟩ := List.mem_map.1 h
    obtain ⟨j, hj⟩ := List.getElem?_of_mem hc
    obtain ⟨_, _, _, hk4, hk5⟩ := cardOk_iff.1 (hm6 j c hj)
    have hts : trait < c.scales.length := by omega
    have hsc := List.getElem?_eq_getElem hts
    have := (scaleOk_iff.1 (hk5 trait _ hsc)).1
    exact ⟨_, hsc, by omega⟩
  · obtain ⟨t, hc, rfl⟩ := List.mem_map.1 h
    obtain ⟨j, hj⟩ := List.getElem?_of_mem hc
    exact (treeOk_iff.1 (hm7 j t hj)).2.2.2.1
theorem cuts_mem (m : Model) (trait : Nat) (x : Int) : x ∈ (partsOf m).flatMap (cutsOf trait) ↔ CutOf m trait x := by
  unfold CutOf
  rw [List.mem_flatMap]
  constructor
  · rintro ⟨p, hp, hx⟩
    rcases List.mem_append.1 hp with h | h
    · obtain ⟨c, hc, rfl⟩ := List.mem_map.1 h
      simp only [cutsOf] at hx
      cases hs : c.scales[trait]? with
      | none => rw [hs] at hx; cases hx
      | some sc => rw [hs] at hx; exact .inl ⟨c, hc, sc, hs, by simpa using hx⟩
    · obtain ⟨t, ht, rfl⟩ := List.mem_map.1 h
      simp only [cutsOf, List.mem_map, List.mem_filter, decide_eq_true_eq] at hx
      obtain ⟨n, ⟨h1, h2⟩, h3⟩ := hx
      exact .inr ⟨t, ht, n, h1, h2, h3.symm⟩
  · rintro (⟨c, hc, sc, hs, hx⟩ | ⟨t, ht, n, h1, h2, h3⟩)
    · exact ⟨.c105 c, List.mem_append_left _ (List.mem_map_of_mem hc), by simp [cutsOf, hs, hx]⟩
    · refine ⟨.c106 t, List.mem_append_right _ (List.mem_map_of_mem ht), ?_⟩
      simp only [cutsOf, List.mem_map, List.mem_filter, decide_eq_true_eq]
      exact ⟨n, ⟨h1, h2⟩, h3.symm⟩
theorem p_stand (m : Model) (trait : Nat) (s : Span) (hm : modelOk m = true) (ht : (trait : Int) < m.traits) (hs : s.lo ≤ s.hi) : P.score_works_stand (Works.mk m (partsOf m)) (trait : Int) s = some (stepsS m trait s) ∧ (stepsS m trait s).length ≤ 1000000 := by
  obtain ⟨hm1, hm2, hm3, hm4, hm5, hm6, hm7⟩ := modelOk_iff.1 hm
  have hfit := fit_parts m trait hm ht
  have hpl : (partsOf m).length ≤ 12 := by rw [partsOf_len]; omega
  have hcl := cuts_len (partsOf m) hfit
  have hdel : ∀ y, y ∈ (s.lo :: (partsOf m).flatMap (cutsOf trait)) → P.score_unique_int_in1 y (fun x0_ => P.score_works_stand_in1 x0_ (Span.mk s.lo s.hi)) = some (!(decide (s.lo ≤ y) && decide (y ≤ s.hi))) := fun y _ => by
    unfold P.score_unique_int_in1 P.score_works_stand_in1
    show Option.bind (Option.bind (cond (decide (s.lo ≤ y)) (some (decide (y ≤ s.hi))) (some false)) fun x2 => some x2) (fun z1 => some (!z1)) = _
    by_cases h : s.lo ≤ y
    · rw [decide_eq_true h, condT, bindS, bindS, Bool.true_and]
    · rw [decide_eq_false h, condF, bindS, bindS, Bool.false_and]
  have hfl := List.length_filter_le (fun n => decide (s.lo ≤ n) && decide (n ≤ s.hi)) (s.lo :: (partsOf m).flatMap (cutsOf trait))
  simp only [List.length_cons] at hfl
  have hgood := stand_good s (CutOf m trait) (s.lo :: (partsOf m).flatMap (cutsOf trait)) hs (fun x => by rw [List.mem_cons, cuts_mem]) _ rfl
  have heq := good_one hgood (stepsS_good m trait s)
  have hsl : (((s.lo :: (partsOf m).flatMap (cutsOf trait)).filter fun n => decide (s.lo ≤ n) && decide (n ≤ s.hi)).mergeSort fun a b => decide (a ≤ b)).length ≤ 1000000 := by rw [List.length_mergeSort]; omega
  have hsort : P.slices_Sort_77 ((s.lo :: (partsOf m).flatMap (cutsOf trait)).filter fun n => decide (s.lo ≤ n) && decide (n ≤ s.hi)) = some (((s.lo :: (partsOf m).flatMap (cutsOf trait)).filter fun n => decide (s.lo ≤ n) && decide (n ≤ s.hi)).mergeSort fun a b => decide (a ≤ b)) := by
    unfold P.slices_Sort_77
    rw [if_pos (by omega)]
  refine ⟨?_, ?_⟩
  · unfold P.score_works_stand
    rw [show (Works.mk m (partsOf m)).parts = partsOf m from rfl]
    rw [p_cuts (partsOf m) trait s hfit hpl, bindS]
    unfold P.score_unique_69 P.slices_Values_68
    rw [p_delete _ _ (fun y => !(decide (s.lo ≤ y) && decide (y ≤ s.hi))) hdel (by simp only [List.length_cons]; omega), bindS]
    simp only [Bool.not_not]
    rw [hsort, bindS, p_compactD _ hsl, bindS, bindS, bindS, heq]
  · have h1 := cards_len trait s m.cards [s.lo] m.traits fun c hc => by
      obtain ⟨j, hj⟩ := List.getElem?_of_mem hc
      exact hm6 j c hj
    have h2 := trees_len trait s m.trees (m.cards.foldl (cardF trait s) [s.lo]) m.traits fun c hc => by
      obtain ⟨j, hj⟩ := List.getElem?_of_mem hc
      exact hm7 j c hj
    unfold stepsS
    simp only [List.length_singleton] at h1
    omega
theorem steps_in {m : Model} {t : Nat} {s : Span} {v : Int} (hs : okSpan s = true) (hv : v ∈ stepsS m t s) : 0 ≤ v ∧ v ≤ 1000000 := by
  have h1 := of_decide_eq_true hs
  rcases (stepsS_good m t s).2 v |>.1 hv with h | ⟨_, h2, h3⟩ <;> omega
theorem lists_set {m : Model} {x : List Span} (hx : x.all okSpan = true) : ∀ (t : Nat) (l : List Int) (v : Int) (y : List Int), listsOf m x t = some l → v ∈ l → valuesOk m y = true → valuesOk m (y.set t v) = true := by
  intro t l v y hl hv hy
  obtain ⟨h1, h2⟩ := valuesOk_iff.1 hy
  unfold listsOf at hl
  cases hs : x[t]? with
  | none => rw [hs] at hl; cases hl
  | some s =>
    rw [hs] at hl
    cases hl
    have h3 := steps_in (List.all_eq_true.1 hx s (List.mem_of_getElem? hs)) hv
    refine valuesOk_iff.2 ⟨by rw [List.length_set]; exact h1, fun j z hz => ?_⟩
    rw [List.getElem?_set] at hz
    split at hz
    · split at hz
      · cases hz; omega
      · cases hz
    · exact h2 j z hz
theorem lists_ok {m : Model} {x : List Span} (hm : modelOk m = true) (hl : (x.length : Int) = m.traits) (hx : x.all okSpan = true) : ∀ t, t < x.length → match listsOf m x t with
    | none => mget (mapTo x x.length) (t : Int) = none
    | some l => ∃ sp, mget (mapTo x x.length) (t : Int) = some sp ∧ P.score_works_stand (Works.mk m (partsOf m)) (t : Int) sp = some l ∧ l.length ≤ 1000000 := by
  intro t ht
  have hy : x[t]? = some x[t] := List.getElem?_eq_getElem ht
  unfold listsOf
  rw [hy]
  have h1 := of_decide_eq_true (List.all_eq_true.1 hx _ (List.getElem_mem ht))
  obtain ⟨h2, h3⟩ := p_stand m t x[t] hm (by omega) (by omega)
  exact ⟨x[t], by rw [mget_mapTo, List.take_length, hy], h2, h3⟩
theorem values_zero {m : Model} {n : Nat} (h : (n : Int) = m.traits) : valuesOk m (List.replicate n 0) = true := by
  refine valuesOk_iff.2 ⟨by rw [List.length_replicate]; exact h, fun j y hy => ?_⟩
  have := (List.mem_replicate.1 (List.mem_of_getElem? hy)).2
  omega
theorem values_in {m : Model} {n : Nat} (h : (n : Int) = m.traits) : ∀ x, valuesOk m x = true → x.length = n ∧ ∀ v ∈ x, InK .i64 v := by
  intro x hx
  obtain ⟨h1, h2⟩ := valuesOk_iff.1 hx
  refine ⟨by omega, fun v hv => ?_⟩
  obtain ⟨j, hj⟩ := List.getElem?_of_mem hv
  have := h2 j v hj
  rw [InK.i64]; omega
end S
end Go.Proofs.Ytecmlmngcnionaa
namespace Go.Proofs.Ytecmlmngcnionaa
open Go Go.Sx Go.RowKit
/-- The state: the values that are told, in a slice of one's own that lies in a variable. -/
def HV (bv : Nat) (s : List Int) (fp : List Nat) (w : World) : Prop := ∃ u, fp = bv :: ob u ∧ Row 26 w bv [u] ∧ Sx.Own (intE .i64) 3 0 [] w u s ∧ bv ∉ ob u
def picksOf (l y : List Int) : List Int := l.map fun i => (y[i.toNat]?).getD 0
theorem heldV (bv : Nat) : Held (HV bv) := by
  refine ⟨?_, ?_⟩
  · rintro s fp w ⟨u, rfl, h1, h2, _⟩ b hb
    rcases List.mem_cons.1 hb with rfl | hb
    · exact ⟨_, _, _, h1⟩
    · exact h2.isCells b hb
  · rintro s fp w w' ⟨u, rfl, h1, h2, h3⟩ hb
    exact ⟨u, rfl, (hb bv (List.mem_cons_self ..)).trans h1, h2.int fun b h => hb b (List.mem_cons_of_mem _ h), h3⟩
set_option maxRecDepth 100000 in
set_option maxHeartbeats 8000000 in
theorem reasons1 {M : List Nat} {w1 : World} {wk : Works} {v1 v2 v4 vl : Value} {bw bY bl bv n : Nat} {D : List Int → Prop} {sc : List Int → Int} {en : List Int → Bool} {yes : Bool} {l : List Int} (f0 : InK IntKind.i64 wk.model.traits) (f1 : RdS CardE M w1 v1 wk.model.cards) (f2 : RdS TreeE M w1 v2 wk.model.trees) (f3 : InK IntKind.i64 wk.model.need) (f4 : RdS I87E M w1 v4 wk.parts)
    (c1 : RdC M w1 bw 0 [.int .i64 wk.model.traits, v1, v2, .int .i64 wk.model.need, v4]) (c2 : RdC M w1 bY 0 [.bool yes]) (c3 : RdC M w1 bl 0 [vl]) (fl : RdS (intE .i64) M w1 vl l) (hl : ∀ i ∈ l, 0 ≤ i ∧ i < (n : Int)) (hll : l.length ≤ 1000000)
    (hD : ∀ y, D y → y.length = n ∧ ∀ v ∈ y, InK .i64 v) (hsc : ∀ y, D y → P.score_works_score wk y = some (sc y) ∧ InK .i64 (sc y)) (hen : ∀ y, D y → P.score_works_enough wk (sc y) = some (en y)) :
    ClH Try.prog (.func (.func 49) #[] [Value.pointer (some ⟨bw, 0, none⟩), .pointer (some ⟨bY, 0, none⟩), .pointer (some ⟨bl, 0, none⟩), .pointer (some ⟨bv, 0, none⟩)].toArray) D (fun s => s = []) (fun s y => if (en y == yes) = true then (false, s) else (true, s ++ picksOf l y)) (HV bv) M w1 := by
  refine ⟨?_⟩
  rintro w fp s y v hk hfp ⟨u, rfl, hrv, hou, hnv⟩ rfl hx hd
  have adv : Adv M (bv :: ob u) w1 w := ⟨hk, hfp⟩
  have hM : MLt (bv :: ob u) w := fun b hb => by
    rcases List.mem_cons.1 hb with rfl | hb
    · exact hrv.rd.lt
    · obtain ⟨_, _, _, h2⟩ := hou.isCells b hb; exact heap_lt h2
  obtain ⟨hyl, hyi⟩ := hD y hd
  obtain ⟨hsc1, hsc2⟩ := hsc y hd
  refine CallsV.ofL Try.call49 rfl ?_
  refine calls_cw Try.func49 rfl Try.ntmps49 rfl ?_
  refine cw_seq ?_
  refine cw_regF ?_
  refine s_as rfl rfl ?_
  refine Reg.nil ?_
  refine cw_seq ?_
  refine cw_seq ?_
  refine cw_regT fol (by kernel_rfl) ?_
  refine s_lda rfl (c1.adv adv).cells Try.isAgg80 rfl Try.sizeOf80 rfl ?_
  refine s_lda rfl (c1.adv adv).cells Try.isAgg80 rfl Try.sizeOf80 rfl ?_
  refine s_mv rfl rfl ?_
  refine s_callq rfl rfl Try.call32 rfl (fun w9 e9 => (C_score_works_score (hM.ext e9) f0 (f1.adv (adv.trans (Adv.of_ext e9))) (f2.adv (adv.trans (Adv.of_ext e9))) f3 (f4.adv (adv.trans (Adv.of_ext e9))) (hx.adv (Adv.of_ext e9)) hsc1).mono (fun _ _ hq => ⟨hq.1, hq.2.2⟩)) ?_
  refine s_callq rfl rfl Try.call33 rfl (fun w9 e9 => (C_score_works_enough (hM.ext e9) f0 (f1.adv (adv.trans (Adv.of_ext e9))) (f2.adv (adv.trans (Adv.of_ext e9))) f3 (f4.adv (adv.trans (Adv.of_ext e9))) hsc2 (hen y hd)).mono (fun _ _ hq => ⟨hq.1, hq.2⟩)) ?_
  refine s_ld rfl ((c2.adv adv).cells.at 0 rfl) Try.isAgg4 rfl ?_
  refine s_eqB rfl rfl rfl Try.underlying4 ?_
  refine Reg.nilq (fun w2 ex2 => ?_)
  have hrv2 := hrv.kp ex2 (by simp)
  have hou2 : Sx.Own (intE .i64) 3 0 [] w2 u [] := hou.int fun b hb => ex2.block b (by obtain ⟨_, _, _, h2⟩ := hou.isCells b hb; exact heap_lt h2) (by simp)
  refine cw_cond rfl (fun hc => ?_) (fun hc => ?_)
  · refine cw_seq ?_
    refine cw_regF ?_
    refine s_as rfl rfl ?_
    refine Reg.nil ?_
    refine cw_ret ?_
    refine fin1 Try.results49 rfl ?_
    rw [if_pos hc]
    exact ⟨rfl, Ext.kp ex2, bv :: ob u, ⟨u, rfl, hrv2, hou2, hnv⟩, fun c hc => .inl hc⟩
  · have hc' : ¬ (en y == yes) = true := by rw [hc]; simp
    refine cw_skip ?_
    refine cw_seq ?_
    refine cw_seq ?_
    refine cw_regF ?_
    refine s_ld rfl ((c3.adv (adv.trans (Adv.of_ext ex2))).cells.at 0 rfl) Try.isAgg26 rfl ?_
    refine s_len rfl (fl.adv (adv.trans (Adv.of_ext ex2))) Try.underlying26 rfl ?_
    refine s_mv rfl rfl ?_
    refine Reg.nil ?_
    refine cw_block ?_
    refine cw_loop (fun i : Nat => [(18, .int .i64 (i : Int)), (17, .int .i64 (l.length : Int)), (16, vl), (4, .pointer (some ⟨bv, 0, none⟩)), (0, v)])
      (fun i W => i ≤ l.length ∧ ∃ u', Row 26 W bv [u'] ∧ Sx.Own (intE .i64) 3 0 [] W u' (picksOf (l.take i) y) ∧ bv ∉ ob u' ∧ (∀ c ∈ ob u', c ∈ ob u ∨ w.heap.size ≤ c) ∧ Kp (bv :: ob u) w W)
      (fun i => l.length - i) 0 ⟨Nat.zero_le _, u, hrv2, hou2, hnv, fun c hc => .inl hc, Ext.kp ex2⟩ (Sub.cons rfl (Sub.cons rfl (Sub.cons rfl (Sub.cons rfl (Sub.cons rfl (Sub.nil _)))))) ?_
    rintro i W ⟨hi, u', hrW, hoW, hnW, hgW, hkW⟩
    have advW : Adv (bv :: ob u) (bv :: ob u') w W := ⟨hkW, fun b hb => by
      rcases List.mem_cons.1 hb with rfl | hb
      · exact .inl (List.mem_cons_self ..)
      · exact (hgW b hb).imp (List.mem_cons_of_mem _) id⟩
    have hMW : MLt (bv :: ob u') W := fun b hb => by
      rcases List.mem_cons.1 hb with rfl | hb
      · exact hrW.rd.lt
      · obtain ⟨_, _, _, h2⟩ := hoW.isCells b hb; exact heap_lt h2
    refine cw_seq ?_
    refine cw_regF ?_
    refine s_lss rfl rfl rfl ?_
    refine Reg.nil ?_
    refine cw_seq ?_
    refine cw_cond rfl (fun hc3 => ?_) (fun hc3 => ?_)
    · have hlt : i < l.length := by have := of_decide_eq_true hc3; omega
      have hy : l[i]? = some l[i] := List.getElem?_eq_getElem hlt
      have hb := hl l[i] (List.getElem_mem hlt)
      have hz : y[l[i].toNat]? = some y[l[i].toNat] := List.getElem?_eq_getElem (by omega)
      refine cw_skip ?_
      refine cw_seq ?_
      refine cw_block ?_
      refine cw_seq ?_
      refine cw_regF ?_
      refine p_ia rfl rfl (fl.adv (adv.trans advW)) (ixo_at hy) Try.underlying26 Try.sizeOf3 rfl (fun gb go cs hR hC => ?_)
      obtain ⟨rfl, hli⟩ := intE_R.1 hR
      refine s_ld rfl (hC.cells.at 0 rfl) Try.isAgg3 rfl ?_
      refine s_as rfl rfl ?_
      refine Reg.nil ?_
      refine cw_regSea [0, 1, 2, 3, 4] [5, 6, 7] [] [6, 7] [[6, 0], [6, 5, 4, 3], [7, 0], [7, 6, 5, 4, 3]] [] fol (by kernel_rfl) rfl (by kernel_rfl) rfl rfl ?_
      refine s_ld rfl (hrW.rd.cells.at 0 rfl) Try.isAgg26 rfl ?_
      refine s_mv rfl rfl ?_
      refine s_mv rfl rfl ?_
      refine p_ia rfl rfl (hx.adv advW) (ixo_some hb.1 hz) Try.underlying26 Try.sizeOf3 rfl (fun gb2 go2 cs2 hR2 hC2 => ?_)
      obtain ⟨rfl, hzi⟩ := intE_R.1 hR2
      refine s_ld rfl (hC2.cells.at 0 rfl) Try.isAgg3 rfl ?_
      refine Reg.nilX ⟨rfl, rfl, rfl, ?_⟩
      intro w5 ex5
      have hS := (Hp.start (Mu := []) hMW).ext ex5
      refine SeaWalk.step [5] (by kernel_rfl) (AllL.cons ?_ AllL.nil)
      refine ⟨_, [], rfl, RSub.nil, rfl, nodupB_spec rfl, ?_⟩
      simp only [relOut]
      refine y_bs (E := (intE .i64)) (xs := [y[l[i].toNat]]) sl26 hS rfl rfl (Cls.cons rfl Cls.nil) (Chs.cons ⟨rfl, hzi⟩ Chs.nil) rfl rfl (fun v6 w6 hI6 a6 => ?_)
      refine Reg.nil ⟨rfl, .inr hI6.kp, rfl, ?_⟩
      intro w7 ex7
      have e57 : Ext W w7 := hI6.kp.trans ex7
      have hr7 := hrW.kp e57 (by simp)
      have ho7 : Sx.Own (intE .i64) 3 0 [] w7 u' (picksOf (l.take i) y) := hoW.int fun b hb => e57.block b (hMW b (List.mem_cons_of_mem _ hb)) (by simp)
      have hx7 : RdS (intE .i64) (ob u' ++ []) w7 v6 [y[l[i].toNat]] := ((hI6.freeze 0 rfl).adv (Adv.of_ext ex7)).adv (Adv.drop fun b hb => mem_mm.2 (.inr (List.mem_cons_of_mem _ (by simpa using hb))))
      refine SeaWalk.step [6] (by kernel_rfl) (AllL.cons ?_ AllL.nil)
      refine ⟨_, [], rfl, RSub.nil, rfl, nodupB_spec rfl, ?_⟩
      simp only [relOut]
      have hpl : (picksOf (l.take i) y).length ≤ 1000000 := by unfold picksOf; rw [List.length_map, List.length_take]; omega
      refine s_app sl26 rfl rfl ho7 hx7 (Nat.zero_le _) ⟨by simp only [List.length_singleton]; omega, by simp only [List.length_singleton]; omega⟩ rfl (fun v8 w8 ho8 hk8 a8 hn8 => ?_)
      refine Reg.nil ⟨rfl, .inl rfl, rfl, ?_⟩
      intro w9 ex9
      have hr9 := (hr7.kp hk8 hnW).kp ex9 (by simp)
      have ho9 : Sx.Own (intE .i64) 3 0 [] w9 v8 (picksOf (l.take i) y ++ [y[l[i].toNat]]) := ho8.int fun b hb => ex9.block b (by obtain ⟨_, _, _, h2⟩ := ho8.isCells b hb; exact heap_lt h2) (by simp)
      have hn9 : bv ∉ ob v8 := fun hb => (hn8 bv hb).elim hnW fun h => by have := hr7.rd.lt; omega
      refine SeaWalk.step [7] (by kernel_rfl) (AllL.cons ?_ AllL.nil)
      refine ⟨_, [], rfl, RSub.nil, rfl, nodupB_spec rfl, ?_⟩
      simp only [relOut]
      refine s_st rfl rfl (Own.cells1 ho8) hr9 Try.sizeOf26 rfl rfl (one1 (Own.oneC ho8) one0) (fun w10 hr10 hk10 => ?_)
      refine Reg.nil ⟨rfl, .inl rfl, rfl, ?_⟩
      intro w11 ex11
      refine SeaWalk.done ?_
      refine cw_regF ?_
      refine p_add rfl rfl rfl (n := ((i + 1 : Nat) : Int)) ⟨by omega, by rw [InK.i64]; omega⟩ ?_
      refine s_mv rfl rfl ?_
      have hr11 : Row 26 w11 bv [v8] := (show Row 26 w10 bv [v8] from hr10).kp ex11 (by simp)
      have hk911 : Kp [bv] w9 w11 := hk10.trans (Ext.kp ex11)
      have ho11 : Sx.Own (intE .i64) 3 0 [] w11 v8 (picksOf (l.take (i + 1)) y) := by
        have e : picksOf (l.take (i + 1)) y = picksOf (l.take i) y ++ [y[l[i].toNat]] := by
          unfold picksOf
          rw [List.take_add_one, hy, Option.toList_some, List.map_append]
          congr 1
          rw [List.map_singleton, hz]; rfl
        rw [e]
        exact ho9.int fun b hb => hk911.block b (by obtain ⟨_, _, _, h2⟩ := ho9.isCells b hb; exact heap_lt h2) fun h => by
          have : b = bv := by simpa using h
          subst this; exact hn9 hb
      have hg8 : ∀ c ∈ ob v8, c ∈ ob u ∨ w.heap.size ≤ c := fun c hc => by
        rcases hn8 c hc with h | h
        · exact hgW c h
        · exact .inr (Nat.le_trans (Nat.le_trans hkW.size e57.size) h)
      refine Reg.nil ⟨rfl, i + 1, ⟨hlt, v8, hr11, ho11, hn9, hg8, ?_⟩, Sub.cons rfl (Sub.cons rfl (Sub.cons rfl (Sub.cons rfl (Sub.cons rfl (Sub.nil _))))), by omega⟩
      refine (((hkW.trans (Ext.kp e57)).tail hk8 fun c hc => ?_).trans (Ext.kp ex9)).trans (hk911.mono fun c hc => .inl ?_)
      · exact (hgW c hc).imp (List.mem_cons_of_mem _) id
      · have : c = bv := by simpa using hc
        subst this; exact List.mem_cons_self ..
    · have hie : i = l.length := by have := of_decide_eq_false hc3; omega
      subst hie
      refine cw_exit ?_
      refine exB_same ?_
      refine cw_seq ?_
      refine cw_regF ?_
      refine s_as rfl rfl ?_
      refine Reg.nil ?_
      refine cw_ret ?_
      refine fin1 Try.results49 rfl ?_
      rw [if_neg hc']
      refine ⟨rfl, hkW, bv :: ob u', ⟨u', rfl, hrW, by rw [List.take_length] at hoW; exact hoW, hnW⟩, fun c hc => ?_⟩
      rcases List.mem_cons.1 hc with rfl | hc
      · exact .inl (List.mem_cons_self ..)
      · exact (hgW c hc).imp (List.mem_cons_of_mem _) id
end Go.Proofs.Ytecmlmngcnionaa
namespace Go.Sx
open Go Go.RowKit
/-- A variable with a slice of numbers of one's own: as one thing. -/
def valR (bv : Nat) (u : Value) (s : List Int) : Res where
  fp := bv :: ob u
  mu := []
  holds := fun _ w => Row 26 w bv [u] ∧ Own (intE .i64) 3 0 [] w u s ∧ bv ∉ ob u
  adv := fun _ hb h => ⟨(hb bv (List.mem_cons_self ..)).trans h.1, h.2.1.int fun b hb' => hb b (List.mem_cons_of_mem _ hb'), h.2.2⟩
  lt := fun h b hb => by
    rcases List.mem_cons.1 hb with rfl | hb
    · exact h.1.rd.lt
    · obtain ⟨_, _, _, h2⟩ := h.2.1.isCells b hb; exact heap_lt h2
theorem mget_mput {α : Type} : ∀ (l : List (Int × α)) (k k' : Int) (z : α), mget (mput l k z) k' = if k = k' then some z else mget l k'
  | [], k, k', z => by simp [mput, mget]
  | (a, y) :: r, k, k', z => by
    unfold mput
    by_cases h : a = k
    · subst h
      rw [if_pos rfl]
      simp only [mget]
      split
      · rfl
      · rfl
    · rw [if_neg h]
      simp only [mget]
      rw [mget_mput r k k' z]
      by_cases h1 : a = k'
      · rw [if_pos h1, if_neg (fun e => h (by omega)), if_pos h1]
      · rw [if_neg h1, if_neg h1]
section
variable {P : Program} {N : Nat} {ds : List Deferred} {L : Env} {w : World} {A B : Out} {X : Nat → Out} {Z : List PanicEntry → Out}
theorem cw_scope {c : Code} (h : CW P N c ds L w A B X Z) : CW P N (.scope c) ds L w A B X Z := fun a ha => wp_scope_straight (wp_mono (h a ha) fun e a' w' hq => by
  cases e <;> exact hq)
theorem cw_label {l : Nat} (h : A ds L w) : CW P N (.label l) ds L w A B X Z := fun a ha => wp_label ⟨ds, L, ha, h⟩
end
section
variable {P : Program} {N : Nat} {ops : Array Oper} {q : Md} {rest : List Oper} {ds : List Deferred} {L : Env} {w : World} {A B : Out} {X : Nat → Out} {Z : List PanicEntry → Out} {d : Nat} {ty : TypeId} {pos : String} {af : Array Edge}
/-- A slice that is nil, against nil. -/
theorem s_eqNil {t t' e : TypeId} {x y : Operand} (hx : ev L x = some (.slice none 0 0)) (hy : ev L y = some (.slice none 0 0)) (ht : P.underlying t = some (.slice e)) (hN : Nat.blt d N = true)
    (h : Reg P N ops q rest ds ((d, .bool true) :: L) w A B X Z) : Reg P N ops q (⟨some d, .binOp .eql t x y t', ty, pos, af, none⟩ :: rest) ds L w A B X Z := by
  refine Reg.val (.bool true) rfl rfl hN (fun a' ha w' _ => ?_) h
  have he : (Op.equal t (.slice none 0 0) (.slice none 0 0)).run P w' = .ok true w' := by
    have key : ∀ n, (Op.equalIn (n + 1) t (.slice none 0 0) (.slice none 0 0)).run P w' = .ok true w' := fun n => by simp [Op.equalIn, run_underlying ht]
    exact key 9999
  have hg : eqGuard .eql t x y (.slice none 0 0) (.slice none 0 0) = pure () := by rfl
  simp [execOp, ha.eval hx, ha.eval hy, hg, binOp, he]
/-- A slice that holds something, against nil. -/
theorem s_eqFull {α : Type} {E : Enc α} {M : List Nat} {w0 : World} {xs : List α} {t t' e : TypeId} {x y : Operand} {v : Value} (hv : RdS E M w0 v xs) (hne : xs ≠ []) (hx : ev L x = some v) (hy : ev L y = some (.slice none 0 0)) (ht : P.underlying t = some (.slice e)) (hN : Nat.blt d N = true)
    (h : Reg P N ops q rest ds ((d, .bool false) :: L) w A B X Z) : Reg P N ops q (⟨some d, .binOp .eql t x y t', ty, pos, af, none⟩ :: rest) ds L w A B X Z := by
  obtain ⟨a, c, rfl, _, _, h3⟩ := hv
  obtain ⟨b, o, rfl, _⟩ := h3.resolve_left hne
  refine Reg.val (.bool false) rfl rfl hN (fun a' ha w' _ => ?_) h
  have he : (Op.equal t (.slice (some ⟨b, o, none⟩) xs.length c) (.slice none 0 0)).run P w' = .ok false w' := by
    have key : ∀ n, (Op.equalIn (n + 1) t (.slice (some ⟨b, o, none⟩) xs.length c) (.slice none 0 0)).run P w' = .ok false w' := fun n => by simp [Op.equalIn, run_underlying ht]
    exact key 9999
  have hg : eqGuard .eql t x y (.slice (some ⟨b, o, none⟩) xs.length c) (.slice none 0 0) = pure () := by rfl
  simp [execOp, ha.eval hx, ha.eval hy, hg, binOp, he]
end
end Go.Sx
namespace Go.Proofs.Ytecmlmngcnionaa
open Go Go.Sx
namespace S
def whole : Span := Span.mk 0 1000000
def listsR (m : Model) (l : List Int) (t : Nat) : Option (List Int) := if (t : Int) ∈ l then some (stepsS m t whole) else none
def enB (m : Model) (n : Int) : Bool := decide (m.need * 1000 ≤ n)
def soR (m : Model) (yes : Bool) (l : List Int) (s y : List Int) : Bool × List Int := if (enB m (score m y) == yes) = true then (false, s) else (true, s ++ picksOf l y)
def tryR (m : Model) (x : List Int) (l : List Int) : Bool × List Int := onS (soR m (enB m (score m x)) l) (listsR m l) x.length 0 x []
/-- The sets of traits, as lists. -/
def bitB (b j : Nat) : Bool := decide (andI .i64 ((b : Int).fdiv (2 ^ min j 64)) 1 = 1)
def setOf (n b : Nat) : List Int := ((List.range n).filter (bitB b)).map fun (j : Nat) => (j : Int)
def setsAll (n : Nat) : List (List Int) := ((List.range (2 ^ n)).map (setOf n)).filter fun l => decide (0 < l.length)
def setsS (n : Nat) : List (List Int) := (setsAll n).mergeSort fun a b => decide (setc a b ≤ 0)
def reasonsS (m : Model) (x : List Int) : List Int × List Int × Int :=
  if err m x = 0 then (match (setsS x.length).find? (fun l => (tryR m x l).1) with | some l => (l, (tryR m x l).2, 0) | none => ([], [], 6)) else ([], [], err m x)
/-- The map of the spans of a set. -/
def spansOf (l : List Int) (i : Nat) : List (Int × Span) := (l.take i).foldl (fun a k => mput a k whole) []
theorem mget_fold (k' : Int) : ∀ (l : List Int) (a : List (Int × Span)), mget (l.foldl (fun a k => mput a k whole) a) k' = if k' ∈ l then some whole else mget a k'
  | [], a => by simp
  | k :: l, a => by
    rw [List.foldl_cons, mget_fold k' l, mget_mput]
    by_cases h1 : k' ∈ l
    · rw [if_pos h1, if_pos (List.mem_cons_of_mem _ h1)]
    · rw [if_neg h1]
      by_cases h2 : k = k'
      · subst h2; rw [if_pos rfl, if_pos (List.mem_cons_self ..)]
      · rw [if_neg h2, if_neg (fun h => (List.mem_cons.1 h).elim (fun e => h2 e.symm) h1)]
theorem spansOf_succ {l : List Int} {i : Nat} {k : Int} (h : l[i]? = some k) : mput (spansOf l i) k whole = spansOf l (i + 1) := by
  unfold spansOf
  rw [List.take_add_one, h, Option.toList_some, List.foldl_append]; rfl
theorem mem_setOf {n b : Nat} {i : Int} (h : i ∈ setOf n b) : 0 ≤ i ∧ i < (n : Int) := by
  obtain ⟨j, hj, rfl⟩ := List.mem_map.1 h
  have := List.mem_range.1 (List.mem_filter.1 hj).1
  omega
theorem setOf_len {n b : Nat} : (setOf n b).length ≤ n := by
  unfold setOf
  rw [List.length_map]
  have := List.length_filter_le (bitB b) (List.range n)
  rw [List.length_range] at this; exact this
theorem setsS_mem {n : Nat} {l : List Int} (h : l ∈ setsS n) : (∀ i ∈ l, 0 ≤ i ∧ i < (n : Int)) ∧ l.length ≤ n ∧ l ≠ [] := by
  unfold setsS at h
  rw [List.mem_mergeSort] at h
  unfold setsAll at h
  obtain ⟨h1, h2⟩ := List.mem_filter.1 h
  obtain ⟨b, _, rfl⟩ := List.mem_map.1 h1
  refine ⟨fun i hi => mem_setOf hi, setOf_len, fun e => ?_⟩
  rw [e] at h2; simp at h2
theorem setsS_len {n : Nat} (hn : n ≤ 5) : (setsS n).length ≤ 32 := by
  unfold setsS setsAll
  rw [List.length_mergeSort]
  refine Nat.le_trans (List.length_filter_le _ _) ?_
  rw [List.length_map, List.length_range]
  exact Nat.pow_le_pow_right (by omega) hn
theorem listsR_set {m : Model} {l : List Int} : ∀ (t : Nat) (ls : List Int) (v : Int) (y : List Int), listsR m l t = some ls → v ∈ ls → valuesOk m y = true → valuesOk m (y.set t v) = true := by
  intro t ls v y hl hv hy
  obtain ⟨h1, h2⟩ := valuesOk_iff.1 hy
  unfold listsR at hl
  split at hl
  · cases hl
    have h3 := steps_in (s := whole) (by decide) hv
    refine valuesOk_iff.2 ⟨by rw [List.length_set]; exact h1, fun j z hz => ?_⟩
    rw [List.getElem?_set] at hz
    split at hz
    · split at hz
      · cases hz; omega
      · cases hz
    · exact h2 j z hz
  · cases hl
theorem listsR_ok {m : Model} {l : List Int} {n : Nat} (hm : modelOk m = true) (hl : (n : Int) = m.traits) : ∀ t, t < n → match listsR m l t with
    | none => mget (spansOf l l.length) (t : Int) = none
    | some ls => ∃ sp, mget (spansOf l l.length) (t : Int) = some sp ∧ P.score_works_stand (Works.mk m (partsOf m)) (t : Int) sp = some ls ∧ ls.length ≤ 1000000 := by
  intro t ht
  have hg : mget (spansOf l l.length) (t : Int) = if (t : Int) ∈ l then some whole else none := by
    unfold spansOf
    rw [List.take_length, mget_fold]; rfl
  unfold listsR
  by_cases h : (t : Int) ∈ l
  · rw [if_pos h]
    obtain ⟨h2, h3⟩ := p_stand m t whole hm (by omega) (by decide)
    exact ⟨whole, by rw [hg, if_pos h], h2, h3⟩
  · rw [if_neg h]
    simp only
    rw [hg, if_neg h]
end S
end Go.Proofs.Ytecmlmngcnionaa
namespace Go.Proofs.Ytecmlmngcnionaa
open Go Go.Sx
namespace S
theorem p_set (n b : Nat) (hn : n ≤ 5) (hb : b < 64) : loopM (S := (List Int) × Int) (R := ((List Int))) (fun (x5, x6) => cond (decide (x6 < (n : Int))) (Option.bind (Option.bind (shrO (b : Int) x6 IntKind.i64.bits) fun n8 => Option.bind (cond (decide (andI .i64 n8 1 = 1)) (Option.bind (appo 8 x5 ([x6] : List Int)) fun l16 => some l16) (some x5)) fun x21 => some x21) fun x22 => Option.bind (chk .i64 (x6 + 1)) fun n23 => some (.inl (x22, n23))) (some (.inr x5))) ([], 0) = some (setOf n b) := by
  have hF : ∀ i, (((List.range i).filter (bitB b)).map fun (j : Nat) => (j : Int)).length ≤ i := fun i => setOf_len (n := i)
  have := loop_fold n (fun i => ((List.range i).filter (bitB b)).map fun (j : Nat) => (j : Int)) (setOf n b) (body := (fun (x5, x6) => cond (decide (x6 < (n : Int))) (Option.bind (Option.bind (shrO (b : Int) x6 IntKind.i64.bits) fun n8 => Option.bind (cond (decide (andI .i64 n8 1 = 1)) (Option.bind (appo 8 x5 ([x6] : List Int)) fun l16 => some l16) (some x5)) fun x21 => some x21) fun x22 => Option.bind (chk .i64 (x6 + 1)) fun n23 => some (.inl (x22, n23))) (some (.inr x5))))
    (fun i hi => by
      have h3 := hF i
      have hs : shrO (b : Int) (i : Int) IntKind.i64.bits = some ((b : Int).fdiv (2 ^ min i 64)) := by
        unfold shrO
        rw [if_pos (by omega), Int.toNat_natCast]; rfl
      have hT : bitB b i = true → (((List.range (i + 1)).filter (bitB b)).map fun (j : Nat) => (j : Int)) = (((List.range i).filter (bitB b)).map fun (j : Nat) => (j : Int)) ++ [(i : Int)] := fun h => by
        rw [List.range_succ, List.filter_append, List.map_append, List.filter_cons_of_pos h]; rfl
      have hN : ¬ bitB b i = true → (((List.range (i + 1)).filter (bitB b)).map fun (j : Nat) => (j : Int)) = (((List.range i).filter (bitB b)).map fun (j : Nat) => (j : Int)) := fun h => by
        rw [List.range_succ, List.filter_append, List.map_append, List.filter_cons_of_neg h, List.filter_nil, List.map_nil, List.append_nil]
      dsimp only
      rw [lt_cast hi, condT, hs, bindS]
      have hbit : decide (andI .i64 ((b : Int).fdiv (2 ^ min i 64)) 1 = 1) = bitB b i := rfl
      rw [hbit]
      by_cases h : bitB b i = true
      · rw [hT h, h, condT, appo_ok (by simp only [List.length_singleton]; omega) (by simp only [List.length_singleton]; omega), bindS, bindS, bindS, chk_nat (by omega), bindS]
      · have h' : bitB b i = false := by simpa using h
        rw [hN h, h', condF, bindS, bindS, chk_nat (by omega), bindS]) (by dsimp only; rw [not_lt_cast, condF]; rfl)
  simpa using this
theorem setsAll_succ (n k : Nat) : (((List.range (k + 1)).map (setOf n)).filter fun l => decide (0 < l.length)) = (((List.range k).map (setOf n)).filter fun l => decide (0 < l.length)) ++ (if 0 < (setOf n k).length then [setOf n k] else []) := by
  rw [List.range_succ, List.map_append, List.filter_append, List.map_singleton]
  congr 1
  by_cases h : 0 < (setOf n k).length
  · rw [if_pos h, List.filter_cons_of_pos (p := fun l : List Int => decide (0 < l.length)) (decide_eq_true h)]; rfl
  · rw [if_neg h, List.filter_cons_of_neg (p := fun l : List Int => decide (0 < l.length)) (by simpa using h)]; rfl
theorem p_sets (n : Nat) (hn : n ≤ 5) : P.score_sets (n : Int) = some (setsS n) := by
  have h2 : (2 ^ n : Nat) ≤ 32 := Nat.pow_le_pow_right (by omega) hn
  have hsh : shlO .i64 1 (n : Int) = some ((2 ^ n : Nat) : Int) := by
    have : n = 0 ∨ n = 1 ∨ n = 2 ∨ n = 3 ∨ n = 4 ∨ n = 5 := by omega
    rcases this with rfl | rfl | rfl | rfl | rfl | rfl <;> rfl
  unfold P.score_sets
  rw [hsh, bindS]
  have hF : ∀ i, (((List.range i).map (setOf n)).filter fun l => decide (0 < l.length)).length ≤ i := fun i => by
    have := List.length_filter_le (fun l : List Int => decide (0 < l.length)) ((List.range i).map (setOf n))
    rw [List.length_map, List.length_range] at this; exact this
  have := loop_fold (2 ^ n) (fun i => ((List.range i).map (setOf n)).filter fun l => decide (0 < l.length)) (setsAll n) (body := (fun (x2, x3) => cond (decide (x3 < ((2 ^ n : Nat) : Int))) (Option.bind (Option.bind (loopM (S := (List Int) × Int) (R := ((List Int))) (fun (x5, x6) => cond (decide (x6 < (n : Int))) (Option.bind (Option.bind (shrO x3 x6 IntKind.i64.bits) fun n8 => Option.bind (cond (decide (andI .i64 n8 1 = 1)) (Option.bind (appo 8 x5 ([x6] : List Int)) fun l16 => some l16) (some x5)) fun x21 => some x21) fun x22 => Option.bind (chk .i64 (x6 + 1)) fun n23 => some (.inl (x22, n23))) (some (.inr x5))) ([], 0)) fun x24 => Option.bind (cond (decide (0 < (x24.length : Int))) (Option.bind (appo 24 x2 ([x24] : List (List Int))) fun l34 => some l34) (some x2)) fun x39 => some x39) fun x40 => Option.bind (chk .i64 (x3 + 1)) fun n41 => some (.inl (x40, n41))) (some (.inr x2))))
    (fun i hi => by
      have h3 := hF i
      have hin := p_set n i hn (by omega)
      dsimp only
      rw [lt_cast hi, condT, hin, bindS, setsAll_succ]
      by_cases h : 0 < (setOf n i).length
      · have e : decide (0 < ((setOf n i).length : Int)) = true := decide_eq_true (by omega)
        rw [e, condT, if_pos h, appo_ok (by simp only [List.length_singleton]; omega) (by simp only [List.length_singleton]; omega), bindS, bindS, bindS, chk_nat (by omega), bindS]
      · have e : decide (0 < ((setOf n i).length : Int)) = false := decide_eq_false (by omega)
        rw [e, condF, if_neg h, bindS, bindS, chk_nat (by omega), bindS, List.append_nil]) (by dsimp only; rw [not_lt_cast, condF]; rfl)
  have h0 : (((List.range 0).map (setOf n)).filter fun l => decide (0 < l.length)) = [] := rfl
  rw [h0] at this
  rw [this, bindS]
  unfold P.slices_SortFunc_62
  have hl := hF (2 ^ n)
  rw [if_pos (by unfold setsAll; omega), bindS]; rfl
/-- The sets of two traits. -/
theorem sets2 : setsS 2 = [[0], [1], [0, 1]] := by
  have h : setsAll 2 = [[0], [1], [0, 1]] := by decide
  unfold setsS
  rw [h]
  refine (sort_is (List.Perm.refl _) ?_).symm
  intro i j a b hij ha hb
  have hj := get_lt hb
  have hj3 : j < 3 := hj
  have : (i = 0 ∧ j = 1) ∨ (i = 0 ∧ j = 2) ∨ (i = 1 ∧ j = 2) := by omega
  rcases this with ⟨rfl, rfl⟩ | ⟨rfl, rfl⟩ | ⟨rfl, rfl⟩ <;> (simp at ha hb; subst ha hb; decide)
end S
end Go.Proofs.Ytecmlmngcnionaa
namespace Go.Proofs.Ytecmlmngcnionaa
open Go Go.Sx Go.RowKit
open Classical in
noncomputable def P.score_Reasons (m : Model) (x : List Int) : Option (List Int × List Int × Int) := if S.Small m ∧ x.length ≤ 10 ∧ P.score_sets (x.length : Int) = some (S.setsS x.length) then some (S.reasonsS m x) else none
theorem p_enough {m : Model} {n : Int} (hm : S.modelOk m = true) : P.score_works_enough (Works.mk m (S.partsOf m)) n = some (S.enB m n) := by
  have h := S.pt_iff.1 (S.modelOk_iff.1 hm).2.2.1
  unfold P.score_works_enough
  have hc : chk .i64 (m.need * 1000) = some (m.need * 1000) := chk_i64 (by omega)
  show Option.bind (chk .i64 (m.need * 1000)) _ = _
  rw [hc, bindS]; rfl
theorem score_in {m : Model} {x : List Int} (hm : S.modelOk m = true) (hx : S.valuesOk m x = true) : InK .i64 (S.score m x) := by
  have h := S.modelOk_iff.1 hm
  have h1 := S.scoreTo_bd m x hm (S.all m x).length (Nat.le_refl _)
  rw [S.score_eq, S.all_len] at h1
  rw [InK.i64]; omega
theorem subV {σ : List Res} {M : List Nat} {b5 : Nat} {u : Value} {s : List Int} (i : Nat) (hi : σ[i]? = some (valR b5 u s)) : ∀ b ∈ (b5 :: ob u) ++ M, b ∈ mm σ M := fun b hb => by
  rcases List.mem_append.1 hb with h | h
  · exact mem_mm.2 (.inl ⟨_, List.mem_of_getElem? hi, h⟩)
  · exact mem_mm.2 (.inr h)
theorem soR_G (m : Model) (yes : Bool) (l : List Int) : ∀ s y, s = [] → S.valuesOk m y = true → (S.soR m yes l s y).1 = false → (S.soR m yes l s y).2 = [] := by
  intro s y hs _ h
  unfold S.soR at h ⊢
  split
  · exact hs
  · rename_i hn; rw [if_neg hn] at h; cases h
set_option maxRecDepth 100000 in
set_option maxHeartbeats 8000000 in
theorem C_score_Reasons {M : List Nat} {w : World} (hM : MLt M w) {m : Model} {v_m_1 : Value} {v_m_2 : Value} (f_m_0 : InK IntKind.i64 m.traits) (f_m_1 : RdS CardE M w v_m_1 m.cards) (f_m_2 : RdS TreeE M w v_m_2 m.trees) (f_m_3 : InK IntKind.i64 m.need) {x : (List Int)} {v_x_0 : Value} (f_x_0 : RdS (intE .i64) M w v_x_0 x) {r0 : List Int} {r1 : List Int} {r2 : Int} (h : P.score_Reasons m x = some (r0, r1, r2)) :
    Calls Try.prog 28 (List.toArray [Value.agg (List.toArray [Value.int IntKind.i64 m.traits, v_m_1, v_m_2, Value.int IntKind.i64 m.need]), v_x_0]) w fun e w' => ∃ v0_0 : Value, ∃ v1_0 : Value, e = .returned (Value.tuple (List.toArray [v0_0, v1_0, Value.int IntKind.i64 r2])) ∧ RdS (intE .i64) M w' v0_0 r0 ∧ RdS (intE .i64) M w' v1_0 r1 ∧ InK IntKind.i64 r2 ∧ Ext w w' := by
  obtain ⟨⟨hsm, hx10, hsets⟩, hr⟩ : (S.Small m ∧ x.length ≤ 10 ∧ P.score_sets (x.length : Int) = some (S.setsS x.length)) ∧ S.reasonsS m x = (r0, r1, r2) := by
    unfold P.score_Reasons at h
    split at h
    · rename_i h1; exact ⟨h1, Option.some.inj h⟩
    · cases h
  have hI := Hp.start (Mu := []) hM
  refine calls_cw Try.func28 rfl Try.ntmps28 rfl ?_
  refine cw_seq ?_
  refine cw_regF ?_
  refine y_box hI rfl rfl rfl (fun b2 w1 hI1 a1 => ?_)
  refine s_as rfl rfl ?_
  refine y_al hI1 Try.zeroValue26 rfl rfl (fun b5 w2 hI2 a2 => ?_)
  refine s_as rfl rfl ?_
  refine Reg.nil ?_
  refine cw_scope ?_
  refine cw_seq ?_
  refine cw_regF ?_
  refine s_lda rfl (hI2.row 1 rfl).rd.cells Try.isAgg25 rfl Try.sizeOf25 rfl ?_
  refine s_mv rfl rfl ?_
  refine s_call rfl Try.call31 rfl ?_
  refine (C_score_asked hI2.mlt f_m_0 (f_m_1.adv hI2.adv) (f_m_2.adv hI2.adv) f_m_3 (f_x_0.adv hI2.adv) (S.p_asked m x hsm hx10)).mono ?_
  rintro _ w3 ⟨v1, v2, v4, rfl, g0, g1, g2, g3, g4, g5, ex3⟩
  refine ⟨_, rfl, ?_⟩
  have hI3 := hI2.ext ex3
  refine s_mv rfl rfl ?_
  refine s_xt rfl rfl rfl ?_
  refine s_xt rfl rfl rfl ?_
  refine y_al hI3 Try.zeroValue80 rfl rfl (fun b7 w4 hI4 a4 => ?_)
  refine y_st 0 hI4 rfl rfl rfl rfl Try.sizeOf80 rfl rfl (one1 rfl (one1 (RdS.oneC g1) (one1 (RdS.oneC g2) (one1 rfl (one1 (RdS.oneC g4) one0))))) (fun w5 hI5 a5 => ?_)
  have a35 := a4.trans a5
  refine s_as rfl rfl ?_
  refine Reg.nil ?_
  refine cw_seq ?_
  refine cw_seq ?_
  refine cw_regF ?_
  refine s_mv rfl rfl ?_
  refine s_neq rfl rfl rfl ?_
  refine Reg.nil ?_
  refine cw_cond rfl (fun hc => ?_) (fun hc => ?_)
  · have hne : ¬ S.err m x = 0 := nd_true hc
    have hrr : (r0, r1, r2) = ([], [], S.err m x) := by rw [← hr]; unfold S.reasonsS; rw [if_neg hne]
    obtain ⟨e0, hrr2⟩ := Prod.mk.inj hrr
    obtain ⟨e1, e2⟩ := Prod.mk.inj hrr2
    subst e0 e1 e2
    refine cw_seq ?_
    refine cw_regF ?_
    refine s_mv rfl rfl ?_
    refine s_as rfl rfl ?_
    refine y_st 1 hI5 rfl rfl rfl rfl Try.sizeOf26 rfl rfl (one1 rfl one0) (fun w6 hI6 a6 => ?_)
    refine s_as rfl rfl ?_
    refine Reg.nil ?_
    refine cw_ret ?_
    refine fin_any Try.results28 (AllRs.cons (RsOk.tmp rfl) (AllRs.cons (RsOk.one rfl ((hI6.row 1 rfl).rd.cells.at 0 rfl) Try.isAgg26) (AllRs.cons (RsOk.tmp rfl) (AllRs.nil)))) rfl ?_
    exact ⟨_, _, rfl, RdS.nil _ _ _, RdS.nil _ _ _, g5, hI6.kp⟩
  · have h0 : S.err m x = 0 := nd_false hc
    have hok : S.modelOk m = true := by
      unfold S.err at h0
      split at h0
      · assumption
      · cases h0
    have hv : S.valuesOk m x = true := by
      unfold S.err at h0
      rw [if_pos hok] at h0
      split at h0
      · assumption
      · cases h0
    have hw : S.worksOf m = Works.mk m (S.partsOf m) := by unfold S.worksOf; rw [if_pos hok]
    simp only [hw] at g0 g1 g2 g3 g4 hI5 a35
    have hlen : (x.length : Int) = m.traits := (S.valuesOk_iff.1 hv).1
    have hx5 : x.length ≤ 5 := by have := S.modelOk_iff.1 hok; omega
    refine cw_skip ?_
    refine cw_seq ?_
    refine cw_regSea [0, 1, 2, 3, 4] [5, 6] [] [6] [[6, 0], [6, 1], [6, 3], [6, 4]] [] fol (by kernel_rfl) rfl (by kernel_rfl) rfl rfl ?_
    refine s_lda rfl (hI5.row 0 rfl).rd.cells Try.isAgg80 rfl Try.sizeOf80 rfl ?_
    refine s_lda rfl (hI5.row 0 rfl).rd.cells Try.isAgg80 rfl Try.sizeOf80 rfl ?_
    refine s_mv rfl rfl ?_
    refine s_callq rfl rfl Try.call32 rfl (fun w9 e9 => (C_score_works_score (w_ := Works.mk m (S.partsOf m)) ((hI5.ext e9).mlt) g0 (g1.adv (a35.trans (Adv.of_ext e9))) (g2.adv (a35.trans (Adv.of_ext e9))) g3 (g4.adv (a35.trans (Adv.of_ext e9))) (f_x_0.adv (hI5.adv.trans (Adv.of_ext e9))) (S.p_worksScore m x hok hv)).mono (fun _ _ hq => ⟨hq.1, hq.2.2⟩)) ?_
    refine s_callq rfl rfl Try.call33 rfl (fun w9 e9 => (C_score_works_enough (w_ := Works.mk m (S.partsOf m)) ((hI5.ext e9).mlt) g0 (g1.adv (a35.trans (Adv.of_ext e9))) (g2.adv (a35.trans (Adv.of_ext e9))) g3 (g4.adv (a35.trans (Adv.of_ext e9))) (score_in hok hv) (p_enough hok)).mono (fun _ _ hq => ⟨hq.1, hq.2⟩)) ?_
    refine Reg.nilX ⟨rfl, rfl, rfl, ?_⟩
    intro w6 ex6
    have hI6 := hI5.ext ex6
    refine SeaWalk.step [5] (by kernel_rfl) (AllL.cons ?_ AllL.nil)
    refine ⟨_, [], rfl, RSub.nil, rfl, nodupB_spec rfl, ?_⟩
    simp only [relOut]
    have hS6 := (Hp.start (Mu := []) hI5.mlt).ext ex6
    refine y_al hS6 Try.zeroValue4 rfl rfl (fun b8 w7 hS7 a7 => ?_)
    refine Reg.nil ⟨rfl, .inr hS7.kp, rfl, ?_⟩
    intro w8 ex8
    have hI8 := (hI5.join hS7).ext ex8
    refine SeaWalk.step [6] (by kernel_rfl) (AllL.cons ?_ AllL.nil)
    refine ⟨_, [], rfl, RSub.nil, rfl, nodupB_spec rfl, ?_⟩
    simp only [relOut]
    refine y_st 0 hI8 rfl rfl rfl rfl Try.sizeOf4 rfl rfl (one1 rfl one0) (fun w9 hI9 a9 => ?_)
    refine Reg.nil ⟨rfl, .inl rfl, rfl, ?_⟩
    intro w10 ex10
    have hI10 := hI9.ext ex10
    refine SeaWalk.done ?_
    refine cw_seq ?_
    refine cw_label ?_
    refine cw_seq ?_
    refine cw_seq ?_
    refine cw_regF ?_
    have hI11 : Hp w [] M [rowR 4 b8 [.bool (S.enB m (S.score m x))], rowR 80 b7 [.int .i64 m.traits, v1, v2, .int .i64 m.need, v4], valR b5 (.slice none 0 0) [], rowR 25 b2 [.int .i64 m.traits, v_m_1, v_m_2, .int .i64 m.need]] w10 :=
      hI10.upd2 (r' := valR b5 (.slice none 0 0) []) 2 rfl (Kp.refl _ _) (fun b hb => .inl (by simpa [valR, rowR, ob] using hb)) rfl fun M' _ => ⟨hI10.row 2 rfl, Own.nil _ _ _ _ _, by simp [ob]⟩
    have a11 : Adv (mm [rowR 26 b5 [.slice none 0 0], rowR 25 b2 [.int .i64 m.traits, v_m_1, v_m_2, .int .i64 m.need]] M) (mm [rowR 4 b8 [.bool (S.enB m (S.score m x))], rowR 80 b7 [.int .i64 m.traits, v1, v2, .int .i64 m.need, v4], valR b5 (.slice none 0 0) [], rowR 25 b2 [.int .i64 m.traits, v_m_1, v_m_2, .int .i64 m.need]] M) w3 w10 :=
      ((((a35.trans (Adv.of_ext ex6)).trans a7).trans (Adv.of_ext ex8)).trans (a9.trans (Adv.of_ext ex10))).trans (Adv.drop fun b hb => by
        rcases mem_mm.1 hb with ⟨r, hr, hb⟩ | hb
        · refine mem_mm.2 (.inl ?_)
          simp only [List.mem_cons, List.not_mem_nil, or_false] at hr
          rcases hr with rfl | rfl | rfl | rfl
          · exact ⟨_, List.mem_of_getElem? (i := 0) rfl, hb⟩
          · exact ⟨_, List.mem_of_getElem? (i := 1) rfl, hb⟩
          · exact ⟨_, List.mem_of_getElem? (i := 2) rfl, by simpa [valR, rowR, ob] using hb⟩
          · exact ⟨_, List.mem_of_getElem? (i := 3) rfl, hb⟩
        · exact mem_mm.2 (.inr hb))
    refine s_fa rfl Try.underlying25 rfl Try.sizeOf3 rfl ?_
    refine s_ld rfl ((hI11.row 3 rfl).rd.cells.at 0 rfl) Try.isAgg3 rfl ?_
    refine s_call rfl Try.call48 rfl ?_
    rw [hlen] at hsets
    refine (C_score_sets hI11.mlt f_m_0 hsets).mono ?_
    rintro _ w12 ⟨vs, rfl, hos, ex12⟩
    refine ⟨_, rfl, ?_⟩
    have hI12 := hI11.ext ex12
    have a12 := a11.trans (Adv.of_ext ex12)
    have hrd : RdS (sliceE (intE .i64)) (mm [rowR 4 b8 [.bool (S.enB m (S.score m x))], rowR 80 b7 [.int .i64 m.traits, v1, v2, .int .i64 m.need, v4], valR b5 (.slice none 0 0) [], rowR 25 b2 [.int .i64 m.traits, v_m_1, v_m_2, .int .i64 m.need]] M) w12 vs (S.setsS x.length) := hos.1.rd fun b hb hb' => by
      have h1 := hos.2 b hb
      have h2 := hI11.mlt b hb'
      omega
    have hsl := S.setsS_len hx5
    refine s_len rfl hrd Try.underlying98 rfl ?_
    refine s_mv rfl rfl ?_
    refine Reg.nil ?_
    refine cw_block ?_
    refine cw_loop (fun i : Nat => [(33, .int .i64 (i : Int)), (32, .int .i64 ((S.setsS x.length).length : Int)), (31, vs), (8, .pointer (some ⟨b8, 0, none⟩)), (7, .pointer (some ⟨b7, 0, none⟩)), (5, .pointer (some ⟨b5, 0, none⟩)), (4, .slice none 0 0), (2, .pointer (some ⟨b2, 0, none⟩)), (1, v_x_0)])
      (fun i W => i ≤ (S.setsS x.length).length ∧ (∀ l ∈ (S.setsS x.length).take i, (S.tryR m x l).1 = false) ∧ ∃ u, Hp w [] M [rowR 4 b8 [.bool (S.enB m (S.score m x))], rowR 80 b7 [.int .i64 m.traits, v1, v2, .int .i64 m.need, v4], valR b5 u [], rowR 25 b2 [.int .i64 m.traits, v_m_1, v_m_2, .int .i64 m.need]] W ∧ Adv (mm [rowR 4 b8 [.bool (S.enB m (S.score m x))], rowR 80 b7 [.int .i64 m.traits, v1, v2, .int .i64 m.need, v4], valR b5 (.slice none 0 0) [], rowR 25 b2 [.int .i64 m.traits, v_m_1, v_m_2, .int .i64 m.need]] M) (mm [rowR 4 b8 [.bool (S.enB m (S.score m x))], rowR 80 b7 [.int .i64 m.traits, v1, v2, .int .i64 m.need, v4], valR b5 u [], rowR 25 b2 [.int .i64 m.traits, v_m_1, v_m_2, .int .i64 m.need]] M) w12 W)
      (fun i => (S.setsS x.length).length - i) 0 ⟨Nat.zero_le _, (by simp), _, hI12, Adv.refl _ _⟩ (Sub.cons rfl (Sub.cons rfl (Sub.cons rfl (Sub.cons rfl (Sub.cons rfl (Sub.cons rfl (Sub.cons rfl (Sub.cons rfl (Sub.cons rfl (Sub.nil _)))))))))) ?_
    rintro i W ⟨hi, hnone, u, hIW, aW⟩
    refine cw_seq ?_
    refine cw_regF ?_
    refine s_lss rfl rfl rfl ?_
    refine Reg.nil ?_
    refine cw_seq ?_
    refine cw_cond rfl (fun hc3 => ?_) (fun hc3 => ?_)
    · have hlt : i < (S.setsS x.length).length := by have := of_decide_eq_true hc3; omega
      obtain ⟨l, hl⟩ : ∃ l, l = (S.setsS x.length)[i] := ⟨_, rfl⟩
      have hy : (S.setsS x.length)[i]? = some l := by rw [hl]; exact List.getElem?_eq_getElem hlt
      obtain ⟨hl1, hl2, hl3⟩ := S.setsS_mem (List.mem_of_getElem? hy)
      refine cw_skip ?_
      refine cw_seq ?_
      refine cw_block ?_
      refine cw_seq ?_
      refine cw_regF ?_
      refine p_ia rfl rfl (hrd.adv aW) (ixo_at hy) Try.underlying98 Try.sizeOf26 rfl (fun gb go cs hR hC => ?_)
      obtain ⟨vl, rfl, hvl⟩ := sliceE_R.1 hR
      refine s_ld rfl (hC.cells.at 0 rfl) Try.isAgg26 rfl ?_
      refine y_al hIW Try.zeroValue26 rfl rfl (fun b10 w13 hI13 a13 => ?_)
      refine y_st 0 hI13 rfl rfl rfl (RdS.cells1 hvl) Try.sizeOf26 rfl rfl (one1 (RdS.oneC hvl) one0) (fun w14 hI14 a14 => ?_)
      refine Reg.nil ?_
      refine cw_seq ?_
      refine cw_regF ?_
      refine y_mkm SpanE true .i64 hI14 rfl (fun bm w15 hI15 a15 => ?_)
      refine s_as rfl rfl ?_
      refine Reg.nil ?_
      have aL := (a13.trans a14).trans a15
      refine cw_seq ?_
      refine cw_seq ?_
      refine cw_regF ?_
      refine s_ld rfl ((hI15.row 1 rfl).rd.cells.at 0 rfl) Try.isAgg26 rfl ?_
      refine s_len rfl (hvl.adv aL) Try.underlying26 rfl ?_
      refine s_mv rfl rfl ?_
      refine Reg.nil ?_
      refine cw_block ?_
      refine cw_loop (fun j : Nat => [(40, .int .i64 (j : Int)), (39, .int .i64 (l.length : Int)), (38, vl), (33, .int .i64 (i : Int)), (32, .int .i64 ((S.setsS x.length).length : Int)), (31, vs), (11, .map (some bm)), (10, .pointer (some ⟨b10, 0, none⟩)), (8, .pointer (some ⟨b8, 0, none⟩)), (7, .pointer (some ⟨b7, 0, none⟩)), (5, .pointer (some ⟨b5, 0, none⟩)), (4, .slice none 0 0), (2, .pointer (some ⟨b2, 0, none⟩)), (1, v_x_0)])
        (fun j W2 => j ≤ l.length ∧ Hp w [] M (mapR SpanE true .i64 bm (S.spansOf l j) :: rowR 26 b10 [vl] :: [rowR 4 b8 [.bool (S.enB m (S.score m x))], rowR 80 b7 [.int .i64 m.traits, v1, v2, .int .i64 m.need, v4], valR b5 u [], rowR 25 b2 [.int .i64 m.traits, v_m_1, v_m_2, .int .i64 m.need]]) W2 ∧ Adv (mm [rowR 4 b8 [.bool (S.enB m (S.score m x))], rowR 80 b7 [.int .i64 m.traits, v1, v2, .int .i64 m.need, v4], valR b5 u [], rowR 25 b2 [.int .i64 m.traits, v_m_1, v_m_2, .int .i64 m.need]] M) (mm (mapR SpanE true .i64 bm (S.spansOf l j) :: rowR 26 b10 [vl] :: [rowR 4 b8 [.bool (S.enB m (S.score m x))], rowR 80 b7 [.int .i64 m.traits, v1, v2, .int .i64 m.need, v4], valR b5 u [], rowR 25 b2 [.int .i64 m.traits, v_m_1, v_m_2, .int .i64 m.need]]) M) W W2)
        (fun j => l.length - j) 0 ⟨Nat.zero_le _, hI15, aL⟩ (Sub.cons rfl (Sub.cons rfl (Sub.cons rfl (Sub.cons rfl (Sub.cons rfl (Sub.cons rfl (Sub.cons rfl (Sub.cons rfl (Sub.cons rfl (Sub.cons rfl (Sub.cons rfl (Sub.cons rfl (Sub.cons rfl (Sub.cons rfl (Sub.nil _))))))))))))))) ?_
      rintro j W2 ⟨hj, hI16, aW2⟩
      refine cw_seq ?_
      refine cw_regF ?_
      refine s_lss rfl rfl rfl ?_
      refine Reg.nil ?_
      refine cw_seq ?_
      refine cw_cond rfl (fun hc4 => ?_) (fun hc4 => ?_)
      · have hjt : j < l.length := by have := of_decide_eq_true hc4; omega
        have hyj : l[j]? = some l[j] := List.getElem?_eq_getElem hjt
        refine cw_skip ?_
        refine cw_seq ?_
        refine cw_block ?_
        refine cw_seq ?_
        refine cw_regF ?_
        refine p_ia rfl rfl (hvl.adv aW2) (ixo_at hyj) Try.underlying26 Try.sizeOf3 rfl (fun gb2 go2 cs2 hR2 hC2 => ?_)
        obtain ⟨rfl, hlji⟩ := intE_R.1 hR2
        refine s_ld rfl (hC2.cells.at 0 rfl) Try.isAgg3 rfl ?_
        refine s_as rfl rfl ?_
        refine Reg.nil ?_
        refine cw_regF ?_
        refine s_mv rfl rfl ?_
        refine s_mv rfl rfl ?_
        refine s_bd [(0, 1), (1, 1)] Try.zeroValue45 rfl Try.underlying45 (fun _ => by simp [Try.sizeOf3]) rfl (Cls.cons rfl Cls.nil) rfl rfl ?_
        refine y_mup 0 (z := S.whole) hI16 rfl rfl rfl rfl ⟨_, SpanE_R.2 ⟨rfl, by decide, by decide⟩, .inl ⟨rfl, rfl⟩⟩ Try.underlying93 Try.underlying3 (fun w17 hI17 a17 => ?_)
        refine Reg.nil ?_
        refine cw_regF ?_
        refine p_add rfl rfl rfl (n := ((j + 1 : Nat) : Int)) ⟨by omega, by rw [InK.i64]; omega⟩ ?_
        refine s_mv rfl rfl ?_
        have a18 := aW2.trans a17
        refine Reg.nil ⟨rfl, j + 1, ⟨hjt, ?_, ?_⟩, Sub.cons rfl (Sub.cons rfl (Sub.cons rfl (Sub.cons rfl (Sub.cons rfl (Sub.cons rfl (Sub.cons rfl (Sub.cons rfl (Sub.cons rfl (Sub.cons rfl (Sub.cons rfl (Sub.cons rfl (Sub.cons rfl (Sub.cons rfl (Sub.nil _)))))))))))))), by omega⟩
        · rw [← S.spansOf_succ hyj]; exact hI17
        · rw [← S.spansOf_succ hyj]; exact a18
      · have hje : j = l.length := by have := of_decide_eq_false hc4; omega
        subst hje
        refine cw_exit ?_
        refine exB_same ?_
        have hM2 : MLt ((b5 :: ob u) ++ M) W2 := fun b hb => hI16.mlt b (subV 4 rfl b hb)
        have aF := (a12.trans (aW.trans aW2)).trans (Adv.drop (subV 4 rfl))
        have hval := hI16.get 4 rfl
        refine cw_seq ?_
        refine cw_regF ?_
        refine s_lda rfl (hI16.row 3 rfl).rd.cells Try.isAgg80 rfl Try.sizeOf80 rfl ?_
        refine s_mv rfl rfl ?_
        refine s_mv rfl rfl ?_
        refine s_mf rfl rfl ?_
        refine s_call rfl Try.call44 rfl ?_
        have hso := reasons1 (wk := Works.mk m (S.partsOf m)) (n := x.length) (D := fun y => S.valuesOk m y = true) (sc := S.score m) (en := fun y => S.enB m (S.score m y)) (yes := S.enB m (S.score m x)) (bv := b5) g0 (g1.adv aF) (g2.adv aF) g3 (g4.adv aF) ((hI16.freezeRow 3 rfl).adv (Adv.drop (subV 3 rfl))) ((hI16.freezeRow 2 rfl).adv (Adv.drop (subV 3 rfl))) ((hI16.freezeRow 1 rfl).adv (Adv.drop (subV 3 rfl))) ((hvl.adv aW2).adv (Adv.drop (subV 4 rfl)))
          hl1 (by omega) (S.values_in hlen) (fun y hy => ⟨S.p_worksScore m y hok hy, score_in hok hy⟩) (fun y hy => p_enough hok)
        refine (try_ok (heldV b5) (wk := Works.mk m (S.partsOf m)) (lists := S.listsR m l) (D := fun y => S.valuesOk m y = true) (G := fun s => s = []) (so := S.soR m (S.enB m (S.score m x)) l) (fp := b5 :: ob u) (s := []) x.length hlen.symm (S.values_in hlen) S.listsR_set (soR_G m _ l) (S.listsR_ok hok hlen) (by omega)
          hM2 g0 (g1.adv aF) (g2.adv aF) g3 (g4.adv aF) (f_x_0.adv (hI16.adv.trans (Adv.drop (subV 4 rfl)))) ((hI16.mapRd 0 rfl).adv (Adv.drop (subV 3 rfl))) ⟨rfl, rfl⟩ hso ⟨u, rfl, hval.1, hval.2.1, hval.2.2⟩ (fun c hc => List.mem_append_left _ hc) rfl hv).mono ?_
        rintro _ w19 ⟨rfl, hk19, fp19, ⟨u2, rfl, hr19, ho19, hn19⟩, hg19⟩
        refine ⟨_, rfl, ?_⟩
        refine s_as rfl rfl ?_
        refine Reg.nil ?_
        have hI19 := hI16.upd2 (r' := valR b5 u2 (S.tryR m x l).2) 4 rfl hk19 hg19 rfl fun M' _ => ⟨hr19, ho19, hn19⟩
        have a19 := hI16.updA (r' := valR b5 u2 (S.tryR m x l).2) 4 rfl hk19 hg19
        refine cw_seq ?_
        refine cw_regF ?_
        refine s_mv rfl rfl ?_
        refine Reg.nil ?_
        refine cw_cond rfl (fun hc5 => ?_) (fun hc5 => ?_)
        · have hfound : (S.tryR m x l).1 = true := hc5
          have hfind : (S.setsS x.length).find? (fun l => (S.tryR m x l).1) = some l := by
            rw [List.find?_eq_some_iff_getElem]
            refine ⟨hfound, i, hlt, hl.symm, fun j hj => ?_⟩
            have := hnone (S.setsS x.length)[j] (List.mem_of_getElem? (i := j) (by rw [List.getElem?_take, if_pos hj]; exact List.getElem?_eq_getElem (by omega)))
            simp [this]
          have hrr : (r0, r1, r2) = (l, (S.tryR m x l).2, 0) := by rw [← hr]; unfold S.reasonsS; rw [if_pos h0, hfind]
          obtain ⟨e0, hrr2⟩ := Prod.mk.inj hrr
          obtain ⟨e1, e2⟩ := Prod.mk.inj hrr2
          subst e0 e1 e2
          refine cw_seq ?_
          refine cw_regF ?_
          refine s_ld rfl ((hI19.row 1 rfl).rd.cells.at 0 rfl) Try.isAgg26 rfl ?_
          refine s_as rfl rfl ?_
          refine Reg.nil ?_
          refine cw_exit ?_
          refine exB_other rfl ?_
          refine exB_same ?_
          have hvl19 := (hvl.adv aW2).adv a19
          refine cw_seq ?_
          refine cw_seq ?_
          refine cw_regF ?_
          refine s_mv rfl rfl ?_
          refine s_eqFull hvl19 hl3 rfl rfl Try.underlying26 rfl ?_
          refine Reg.nil ?_
          refine cw_condF rfl ?_
          refine cw_skip ?_
          refine cw_seq ?_
          refine cw_regSea [0, 1, 2] [3, 4] [] [3] [[3, 1]] [] fol (by kernel_rfl) rfl (by kernel_rfl) rfl rfl ?_
          refine s_mv rfl rfl ?_
          refine s_ld rfl (hr19.rd.cells.at 0 rfl) Try.isAgg26 rfl ?_
          refine s_as rfl rfl ?_
          refine Reg.nilX ⟨rfl, rfl, rfl, ?_⟩
          intro w20 ex20
          refine SeaWalk.step [3] (by kernel_rfl) (AllL.cons ?_ AllL.nil)
          refine ⟨_, [], rfl, RSub.nil, rfl, nodupB_spec rfl, ?_⟩
          simp only [relOut]
          refine s_st rfl rfl (Own.cells1 ho19) (hr19.kp ex20 (by simp)) Try.sizeOf26 rfl rfl (one1 (Own.oneC ho19) one0) (fun w21 hr21 hk21 => ?_)
          refine Reg.nil ⟨rfl, .inl rfl, rfl, ?_⟩
          intro w22 ex22
          refine SeaWalk.step [4] (by kernel_rfl) (AllL.cons ?_ AllL.nil)
          refine ⟨_, [], rfl, RSub.nil, rfl, nodupB_spec rfl, ?_⟩
          simp only [relOut]
          refine s_as rfl rfl ?_
          refine Reg.nil ⟨rfl, .inl rfl, rfl, ?_⟩
          intro w23 ex23
          refine SeaWalk.done ?_
          refine cw_ret ?_
          have hr23 : Row 26 w23 b5 [u2] := ((show Row 26 w21 b5 [u2] from hr21).kp ex22 (by simp)).kp ex23 (by simp)
          have hk2023 : Kp [b5] w20 w23 := (hk21.trans (Ext.kp ex22)).trans (Ext.kp ex23)
          have hk1923 : Kp [b5] w19 w23 := (Ext.kp ex20).trans hk2023
          have hb5 : b5 ∈ mm ((mapR SpanE true .i64 bm (S.spansOf r0 r0.length) :: rowR 26 b10 [vl] :: [rowR 4 b8 [.bool (S.enB m (S.score m x))], rowR 80 b7 [.int .i64 m.traits, v1, v2, .int .i64 m.need, v4], valR b5 u [], rowR 25 b2 [.int .i64 m.traits, v_m_1, v_m_2, .int .i64 m.need]]).set 4 (valR b5 u2 (S.tryR m x r0).2)) M := subV 4 rfl b5 (List.mem_append_left _ (List.mem_cons_self ..))
          have hn5 : w.heap.size ≤ b5 := ((hI19.own _ (List.mem_of_getElem? (i := 4) rfl)).2 b5 (List.mem_cons_self ..)).elim (fun h => by cases h) id
          refine fin_any Try.results28 (AllRs.cons (RsOk.tmp rfl) (AllRs.cons (RsOk.one rfl (hr23.rd.cells.at 0 rfl) Try.isAgg26) (AllRs.cons (RsOk.tmp rfl) (AllRs.nil)))) rfl ?_
          refine ⟨_, _, rfl, (hvl19.adv (Adv.write hk1923 hb5)).adv (Adv.drop fun b hb => mem_mm.2 (.inr hb)), ?_, (by decide), hI19.kp.tail hk1923 fun c hc => .inr ?_⟩
          · refine (ho19.int (M' := M) fun b hb => hk1923.block b (by obtain ⟨_, _, _, h2⟩ := ho19.isCells b hb; exact heap_lt h2) fun h => ?_).rd fun b hb => hI19.sepM _ (List.mem_of_getElem? (i := 4) rfl) b (List.mem_cons_of_mem _ hb)
            have : b = b5 := by simpa using h
            subst this; exact hn19 hb
          · have : c = b5 := by simpa using hc
            subst this; exact hn5
        · have hnf : (S.tryR m x l).1 = false := hc5
          have hnil : (S.tryR m x l).2 = [] := onS_G (D := fun y => S.valuesOk m y = true) (G := fun s => s = []) (soR_G m _ l) S.listsR_set x.length 0 x [] hv rfl hnf
          rw [hnil] at hI19 a19
          have hI20 := hI19.dropN 2
          have a20 := (aW.trans (aW2.trans a19)).trans (Hp.dropA 2)
          refine cw_skip ?_
          refine cw_regF ?_
          refine p_add rfl rfl rfl (n := ((i + 1 : Nat) : Int)) ⟨by omega, by rw [InK.i64]; omega⟩ ?_
          refine s_mv rfl rfl ?_
          refine Reg.nil ⟨rfl, i + 1, ⟨hlt, fun l' hl' => ?_, u2, hI20, a20⟩, Sub.cons rfl (Sub.cons rfl (Sub.cons rfl (Sub.cons rfl (Sub.cons rfl (Sub.cons rfl (Sub.cons rfl (Sub.cons rfl (Sub.cons rfl (Sub.nil _))))))))), by omega⟩
          rw [List.take_add_one, hy] at hl'
          rcases List.mem_append.1 hl' with h | h
          · exact hnone l' h
          · have : l' = l := by simpa using h
            rw [this]; exact hnf
    · have hie : i = (S.setsS x.length).length := by have := of_decide_eq_false hc3; omega
      subst hie
      have hfind : (S.setsS x.length).find? (fun l => (S.tryR m x l).1) = none := by
        rw [List.find?_eq_none]
        intro l hl
        rw [hnone l (by rw [List.take_length]; exact hl)]; simp
      have hrr : (r0, r1, r2) = ([], [], 6) := by rw [← hr]; unfold S.reasonsS; rw [if_pos h0, hfind]
      obtain ⟨e0, hrr2⟩ := Prod.mk.inj hrr
      obtain ⟨e1, e2⟩ := Prod.mk.inj hrr2
      subst e0 e1 e2
      have hval := hIW.get 2 rfl
      have hn5 : w.heap.size ≤ b5 := ((hIW.own _ (List.mem_of_getElem? (i := 2) rfl)).2 b5 (List.mem_cons_self ..)).elim (fun h => by cases h) id
      refine cw_exit ?_
      refine exB_same ?_
      refine cw_seq ?_
      refine cw_seq ?_
      refine cw_regF ?_
      refine s_mv rfl rfl ?_
      refine s_eqNil rfl rfl Try.underlying26 rfl ?_
      refine Reg.nil ?_
      refine cw_condT rfl ?_
      refine cw_seq ?_
      refine cw_regF ?_
      refine s_as rfl rfl ?_
      refine s_st rfl rfl rfl hval.1 Try.sizeOf26 rfl rfl (one1 rfl one0) (fun w13 hr13 hk13 => ?_)
      refine s_as rfl rfl ?_
      refine Reg.nil ?_
      refine cw_ret ?_
      refine fin_any Try.results28 (AllRs.cons (RsOk.tmp rfl) (AllRs.cons (RsOk.one rfl (hr13.rd.cells.at 0 rfl) Try.isAgg26) (AllRs.cons (RsOk.tmp rfl) (AllRs.nil)))) rfl ?_
      refine ⟨_, _, rfl, RdS.nil _ _ _, RdS.nil _ _ _, (by decide), hIW.kp.tail hk13 fun c hc => .inr ?_⟩
      have : c = b5 := by simpa using hc
      subst this; exact hn5
end Go.Proofs.Ytecmlmngcnionaa
namespace Go.Proofs.Ytecmlmngcnionaa
open Go Go.Sx Go.RowKit
open Classical in
noncomputable def P.score_Between (m : Model) (x : List Span) : Option (Span × Int) := if S.Small m ∧ x.length ≤ 10 then some (S.betweenS m x) else none
theorem swithin2 (a b : Int) : P.score_within 0 1000000 [a, b] = some (decide (0 ≤ a ∧ a ≤ 1000000) && decide (0 ≤ b ∧ b ≤ 1000000)) := by
  rw [S.p_swithin 0 1000000 [a, b] (by simp)]
  simp
theorem sub2 {σ : List Res} {M : List Nat} {b12 b11 : Nat} {cs cs' : List Value} (i j : Nat) (hi : σ[i]? = some (rowR 4 b12 cs)) (hj : σ[j]? = some (rowR 95 b11 cs')) : ∀ b ∈ b12 :: b11 :: M, b ∈ mm σ M := fun b hb => by
  rcases List.mem_cons.1 hb with rfl | hb
  · exact mem_mm.2 (.inl ⟨_, List.mem_of_getElem? hi, by simp [rowR]⟩)
  · rcases List.mem_cons.1 hb with rfl | hb
    · exact mem_mm.2 (.inl ⟨_, List.mem_of_getElem? hj, by simp [rowR]⟩)
    · exact mem_mm.2 (.inr hb)
set_option maxRecDepth 100000 in
set_option maxHeartbeats 8000000 in
theorem C_score_Between {M : List Nat} {w : World} (hM : MLt M w) {m : Model} {v_m_1 : Value} {v_m_2 : Value} (f_m_0 : InK IntKind.i64 m.traits) (f_m_1 : RdS CardE M w v_m_1 m.cards) (f_m_2 : RdS TreeE M w v_m_2 m.trees) (f_m_3 : InK IntKind.i64 m.need) {x : (List Span)} {v_x_0 : Value} (f_x_0 : RdS SpanE M w v_x_0 x) {r0 : Span} {r1 : Int} (h : P.score_Between m x = some (r0, r1)) :
    Calls Try.prog 22 (List.toArray [Value.agg (List.toArray [Value.int IntKind.i64 m.traits, v_m_1, v_m_2, Value.int IntKind.i64 m.need]), v_x_0]) w fun e w' => e = .returned (Value.tuple (List.toArray [Value.agg (List.toArray [Value.int IntKind.i64 r0.lo, Value.int IntKind.i64 r0.hi]), Value.int IntKind.i64 r1])) ∧ InK IntKind.i64 r0.lo ∧ InK IntKind.i64 r0.hi ∧ InK IntKind.i64 r1 ∧ Ext w w' := by
  obtain ⟨⟨hsm, hx10⟩, hr⟩ : (S.Small m ∧ x.length ≤ 10) ∧ S.betweenS m x = (r0, r1) := by
    unfold P.score_Between at h
    split at h
    · rename_i h1; exact ⟨h1, Option.some.inj h⟩
    · cases h
  have hI := Hp.start (Mu := []) hM
  refine calls_cw Try.func22 rfl Try.ntmps22 rfl ?_
  refine cw_seq ?_
  refine cw_regF ?_
  refine y_box hI rfl rfl rfl (fun b2 w1 hI1 a1 => ?_)
  refine y_al hI1 Try.zeroValue45 rfl rfl (fun b4 w2 hI2 a2 => ?_)
  refine s_as rfl rfl ?_
  refine Reg.nil ?_
  refine cw_seq ?_
  refine cw_regF ?_
  refine s_lda rfl (hI2.row 1 rfl).rd.cells Try.isAgg25 rfl Try.sizeOf25 rfl ?_
  refine s_call rfl Try.call37 rfl ?_
  refine (C_score_open hI2.mlt f_m_0 (f_m_1.adv hI2.adv) (f_m_2.adv hI2.adv) f_m_3 (S.p_open m hsm)).mono ?_
  rintro _ w3 ⟨v1, v2, v4, rfl, g0, g1, g2, g3, g4, g5, ex3⟩
  refine ⟨_, rfl, ?_⟩
  have hI3 := hI2.ext ex3
  refine s_mv rfl rfl ?_
  refine s_xt rfl rfl rfl ?_
  refine s_xt rfl rfl rfl ?_
  refine y_al hI3 Try.zeroValue80 rfl rfl (fun b6 w4 hI4 a4 => ?_)
  refine y_st 0 hI4 rfl rfl rfl rfl Try.sizeOf80 rfl rfl (one1 rfl (one1 (RdS.oneC g1) (one1 (RdS.oneC g2) (one1 rfl (one1 (RdS.oneC g4) one0))))) (fun w5 hI5 a5 => ?_)
  have a35 := a4.trans a5
  refine s_as rfl rfl ?_
  refine Reg.nil ?_
  refine cw_seq ?_
  refine cw_seq ?_
  refine cw_regF ?_
  refine s_mv rfl rfl ?_
  refine s_neq rfl rfl rfl ?_
  refine Reg.nil ?_
  refine cw_cond rfl (fun hc => ?_) (fun hc => ?_)
  · have hne : ¬ S.check m = 0 := nd_true hc
    have hbad := S.check_bad hne
    have hrr : (r0, r1) = (Span.mk 0 0, 60) := by rw [← hr]; unfold S.betweenS; rw [if_pos hbad]
    have hch : S.check m = 60 := by unfold S.check; rw [hbad]; rfl
    obtain ⟨rfl, rfl⟩ := Prod.mk.inj hrr
    rw [hch]
    refine cw_seq ?_
    refine cw_regF ?_
    refine s_bd [(0, 1), (1, 1)] Try.zeroValue45 rfl Try.underlying45 (fun _ => by simp [Try.sizeOf3]) rfl (Cls.nil) rfl rfl ?_
    refine s_mv rfl rfl ?_
    refine y_st 1 hI5 rfl rfl rfl rfl Try.sizeOf45 rfl rfl (one1 rfl (one1 rfl one0)) (fun w6 hI6 a6 => ?_)
    refine s_as rfl rfl ?_
    refine Reg.nil ?_
    refine cw_ret ?_
    refine fin_any Try.results22 (AllRs.cons (RsOk.agg rfl (hI6.row 1 rfl).rd.cells Try.isAgg45 rfl Try.sizeOf45) (AllRs.cons (RsOk.tmp rfl) (AllRs.nil))) rfl ?_
    exact ⟨rfl, (by decide), (by decide), (by decide), hI6.kp⟩
  · have h0 : S.check m = 0 := nd_false hc
    have hok : S.modelOk m = true := S.check_ok h0
    have hw : S.worksOf m = Works.mk m (S.partsOf m) := by unfold S.worksOf; rw [if_pos hok]
    simp only [hw] at g0 g1 g2 g3 g4 hI5 a35
    have hIw := hI5
    refine cw_skip ?_
    refine cw_seq ?_
    refine cw_seq ?_
    refine cw_regF ?_
    refine s_mv rfl rfl ?_
    refine s_len rfl (f_x_0.adv hIw.adv) Try.underlying43 rfl ?_
    refine s_fa rfl Try.underlying25 rfl Try.sizeOf3 rfl ?_
    refine s_ld rfl ((hIw.row 2 rfl).rd.cells.at 0 rfl) Try.isAgg3 rfl ?_
    refine s_neq rfl rfl rfl ?_
    refine Reg.nil ?_
    refine cw_cond rfl (fun hc2 => ?_) (fun hc2 => ?_)
    · have hne : ¬ (x.length : Int) = m.traits := nd_true hc2
      have hrr : (r0, r1) = (Span.mk 0 0, 61) := by rw [← hr]; unfold S.betweenS; rw [if_neg (by rw [hok]; simp), if_pos hne]
      obtain ⟨rfl, rfl⟩ := Prod.mk.inj hrr
      refine cw_seq ?_
      refine cw_regF ?_
      refine s_bd [(0, 1), (1, 1)] Try.zeroValue45 rfl Try.underlying45 (fun _ => by simp [Try.sizeOf3]) rfl (Cls.nil) rfl rfl ?_
      refine y_st 1 hIw rfl rfl rfl rfl Try.sizeOf45 rfl rfl (one1 rfl (one1 rfl one0)) (fun w6' hI6' a6' => ?_)
      refine s_as rfl rfl ?_
      refine Reg.nil ?_
      refine cw_ret ?_
      refine fin_any Try.results22 (AllRs.cons (RsOk.agg rfl (hI6'.row 1 rfl).rd.cells Try.isAgg45 rfl Try.sizeOf45) (AllRs.cons (RsOk.tmp rfl) (AllRs.nil))) rfl ?_
      exact ⟨rfl, (by decide), (by decide), (by decide), hI6'.kp⟩
    · have hlen : (x.length : Int) = m.traits := nd_false hc2
      refine cw_skip ?_
      refine cw_seq ?_
      refine cw_regF ?_
      refine y_mkm SpanE true .i64 hIw rfl (fun bm w6 hI6 a6 => ?_)
      refine s_as rfl rfl ?_
      refine Reg.nil ?_
      have a36 := a35.trans a6
      refine cw_seq ?_
      refine cw_seq ?_
      refine cw_regF ?_
      refine s_mv rfl rfl ?_
      refine s_len rfl (f_x_0.adv hI6.adv) Try.underlying43 rfl ?_
      refine s_mv rfl rfl ?_
      refine Reg.nil ?_
      refine cw_block ?_
      refine cw_loop (fun i : Nat => [(31, .int .i64 (i : Int)), (30, .int .i64 (x.length : Int)), (29, v_x_0), (8, .map (some bm)), (6, .pointer (some ⟨b6, 0, none⟩)), (4, .pointer (some ⟨b4, 0, none⟩)), (2, .pointer (some ⟨b2, 0, none⟩))])
        (fun i W => i ≤ x.length ∧ (∀ s ∈ x.take i, S.okSpan s = true) ∧ Hp w [] M [mapR SpanE true .i64 bm (S.mapTo x i), rowR 80 b6 [.int .i64 m.traits, v1, v2, .int .i64 m.need, v4], rowR 45 b4 [.int .i64 0, .int .i64 0], rowR 25 b2 [.int .i64 m.traits, v_m_1, v_m_2, .int .i64 m.need]] W ∧
          Adv (mm [rowR 45 b4 [.int .i64 0, .int .i64 0], rowR 25 b2 [.int .i64 m.traits, v_m_1, v_m_2, .int .i64 m.need]] M) (mm [mapR SpanE true .i64 bm (S.mapTo x i), rowR 80 b6 [.int .i64 m.traits, v1, v2, .int .i64 m.need, v4], rowR 45 b4 [.int .i64 0, .int .i64 0], rowR 25 b2 [.int .i64 m.traits, v_m_1, v_m_2, .int .i64 m.need]] M) w3 W)
        (fun i => x.length - i) 0 ⟨Nat.zero_le _, (by simp), hI6, a36⟩ (Sub.cons rfl (Sub.cons rfl (Sub.cons rfl (Sub.cons rfl (Sub.cons rfl (Sub.cons rfl (Sub.cons rfl (Sub.nil _)))))))) ?_
      rintro i W ⟨hi, hgood, hIW, aW⟩
      refine cw_seq ?_
      refine cw_regF ?_
      refine s_lss rfl rfl rfl ?_
      refine Reg.nil ?_
      refine cw_seq ?_
      refine cw_cond rfl (fun hc3 => ?_) (fun hc3 => ?_)
      · have hlt : i < x.length := by have := of_decide_eq_true hc3; omega
        have hy : x[i]? = some x[i] := List.getElem?_eq_getElem hlt
        have hrbad : S.okSpan x[i] = false → (r0, r1) = (Span.mk 0 0, 61) := fun hb => by
          have hall : x.all S.okSpan = false := by rw [List.all_eq_false]; exact ⟨x[i], List.getElem_mem hlt, by rw [hb]; simp⟩
          rw [← hr]; unfold S.betweenS; rw [if_neg (by rw [hok]; simp), if_neg (fun h => h hlen), hall]; rfl
        refine cw_skip ?_
        refine cw_seq ?_
        refine cw_block ?_
        refine cw_seq ?_
        refine cw_regF ?_
        refine s_mv rfl rfl ?_
        refine p_ia rfl rfl (f_x_0.adv hIW.adv) (ixo_at hy) Try.underlying43 Try.sizeOf45 rfl (fun gb go cs hR hC => ?_)
        obtain ⟨rfl, hlo, hhi⟩ := SpanE_R.1 hR
        refine s_lda rfl hC.cells Try.isAgg45 rfl Try.sizeOf45 rfl ?_
        refine y_al hIW Try.zeroValue45 rfl rfl (fun bs w7 hI7 a7 => ?_)
        refine s_as rfl rfl ?_
        refine y_st 0 hI7 rfl rfl rfl rfl Try.sizeOf45 rfl rfl (one1 rfl (one1 rfl one0)) (fun w8 hI8 a8 => ?_)
        refine Reg.nil ?_
        refine cw_seq ?_
        refine cw_seq ?_
        refine cw_regF ?_
        refine s_fa rfl Try.underlying45 rfl Try.sizeOf3 rfl ?_
        refine s_ld rfl ((hI8.row 0 rfl).rd.cells.at 0 rfl) Try.isAgg3 rfl ?_
        refine s_fa rfl Try.underlying45 rfl Try.sizeOf3 rfl ?_
        refine s_ld rfl ((hI8.row 0 rfl).rd.cells.at 1 rfl) Try.isAgg3 rfl ?_
        refine y_bs (E := (intE .i64)) (xs := [x[i].lo, x[i].hi]) sl26 hI8 rfl rfl (Cls.cons rfl (Cls.cons rfl Cls.nil)) (Chs.cons ⟨rfl, hlo⟩ (Chs.cons ⟨rfl, hhi⟩ Chs.nil)) rfl rfl (fun v9 w9 hI9 a9 => ?_)
        refine s_call rfl Try.call43 rfl ?_
        refine (C_score_within (hI9.erase 0).mlt (by decide) (by decide) (hI9.freeze 0 rfl) (swithin2 _ _)).mono ?_
        rintro _ w10 ⟨rfl, ex10⟩
        refine ⟨_, rfl, ?_⟩
        have hI10 := (hI9.erase 0).ext ex10
        have a10 := (((aW.trans a7).trans a8).trans a9).trans ((Hp.eraseA 0).trans (Adv.of_ext ex10))
        refine s_not rfl rfl ?_
        refine s_mv rfl rfl ?_
        generalize hB : (decide (0 ≤ x[i].lo ∧ x[i].lo ≤ 1000000) && decide (0 ≤ x[i].hi ∧ x[i].hi ≤ 1000000)) = B
        cases B with
        | false =>
          have hbs : S.okSpan x[i] = false := by
            unfold S.okSpan
            rw [Bool.and_eq_false_iff, decide_eq_false_iff_not, decide_eq_false_iff_not] at hB
            exact decide_eq_false (by omega)
          obtain ⟨rfl, rfl⟩ := Prod.mk.inj (hrbad hbs)
          refine Reg.pass rfl rfl rfl rfl ?_
          refine Reg.pass rfl rfl rfl rfl ?_
          refine Reg.pass rfl rfl rfl rfl ?_
          refine Reg.pass rfl rfl rfl rfl ?_
          refine Reg.pass rfl rfl rfl rfl ?_
          refine s_pkT rfl rfl rfl ?_
          refine Reg.nil ?_
          refine cw_condT rfl ?_
          refine cw_seq ?_
          refine cw_regF ?_
          refine s_bd [(0, 1), (1, 1)] Try.zeroValue45 rfl Try.underlying45 (fun _ => by simp [Try.sizeOf3]) rfl (Cls.nil) rfl rfl ?_
          refine y_st 3 hI10 rfl rfl rfl rfl Try.sizeOf45 rfl rfl (one1 rfl (one1 rfl one0)) (fun w6' hI6' a6' => ?_)
          refine s_as rfl rfl ?_
          refine Reg.nil ?_
          refine cw_ret ?_
          refine fin_any Try.results22 (AllRs.cons (RsOk.agg rfl (hI6'.row 3 rfl).rd.cells Try.isAgg45 rfl Try.sizeOf45) (AllRs.cons (RsOk.tmp rfl) (AllRs.nil))) rfl ?_
          exact ⟨rfl, (by decide), (by decide), (by decide), hI6'.kp⟩
        | true =>
          refine Reg.take rfl rfl ?_
          refine s_fa rfl Try.underlying45 rfl Try.sizeOf3 rfl ?_
          refine Reg.take rfl rfl ?_
          refine s_ld rfl ((hI10.row 0 rfl).rd.cells.at 0 rfl) Try.isAgg3 rfl ?_
          refine Reg.take rfl rfl ?_
          refine s_fa rfl Try.underlying45 rfl Try.sizeOf3 rfl ?_
          refine Reg.take rfl rfl ?_
          refine s_ld rfl ((hI10.row 0 rfl).rd.cells.at 1 rfl) Try.isAgg3 rfl ?_
          refine Reg.take rfl rfl ?_
          refine s_gtr rfl rfl rfl ?_
          refine s_pkF rfl rfl rfl ?_
          refine Reg.nil ?_
          rw [Bool.and_eq_true, decide_eq_true_eq, decide_eq_true_eq] at hB
          refine cw_cond rfl (fun hc4 => ?_) (fun hc4 => ?_)
          · have h4 := of_decide_eq_true hc4
            have hbs : S.okSpan x[i] = false := by
              unfold S.okSpan
              exact decide_eq_false (by omega)
            obtain ⟨rfl, rfl⟩ := Prod.mk.inj (hrbad hbs)
            refine cw_seq ?_
            refine cw_regF ?_
            refine s_bd [(0, 1), (1, 1)] Try.zeroValue45 rfl Try.underlying45 (fun _ => by simp [Try.sizeOf3]) rfl (Cls.nil) rfl rfl ?_
            refine y_st 3 hI10 rfl rfl rfl rfl Try.sizeOf45 rfl rfl (one1 rfl (one1 rfl one0)) (fun w6' hI6' a6' => ?_)
            refine s_as rfl rfl ?_
            refine Reg.nil ?_
            refine cw_ret ?_
            refine fin_any Try.results22 (AllRs.cons (RsOk.agg rfl (hI6'.row 3 rfl).rd.cells Try.isAgg45 rfl Try.sizeOf45) (AllRs.cons (RsOk.tmp rfl) (AllRs.nil))) rfl ?_
            exact ⟨rfl, (by decide), (by decide), (by decide), hI6'.kp⟩
          · have h4 := of_decide_eq_false hc4
            have hgs : S.okSpan x[i] = true := by
              unfold S.okSpan
              exact decide_eq_true (by omega)
            refine cw_skip ?_
            refine cw_regF ?_
            refine s_mv rfl rfl ?_
            refine s_mv rfl rfl ?_
            refine s_lda rfl (hI10.row 0 rfl).rd.cells Try.isAgg45 rfl Try.sizeOf45 rfl ?_
            refine y_mup 1 (z := x[i]) hI10 rfl rfl rfl rfl ⟨_, SpanE_R.2 ⟨rfl, hlo, hhi⟩, .inl ⟨rfl, rfl⟩⟩ Try.underlying93 Try.underlying3 (fun w11 hI11 a11 => ?_)
            refine Reg.nil ?_
            refine cw_regF ?_
            refine p_add rfl rfl rfl (n := ((i + 1 : Nat) : Int)) ⟨by omega, by rw [InK.i64]; omega⟩ ?_
            refine s_mv rfl rfl ?_
            have hI12 := hI11.erase 0
            have a12 := (a10.trans a11).trans (Hp.eraseA 0)
            refine Reg.nil ⟨rfl, i + 1, ⟨hlt, fun s hs => ?_, ?_, ?_⟩, Sub.cons rfl (Sub.cons rfl (Sub.cons rfl (Sub.cons rfl (Sub.cons rfl (Sub.cons rfl (Sub.cons rfl (Sub.nil _))))))), by omega⟩
            · rw [List.take_add_one, hy] at hs
              rcases List.mem_append.1 hs with h | h
              · exact hgood s h
              · have : s = x[i] := by simpa using h
                rw [this]; exact hgs
            · rw [← S.mput_mapTo hy]; exact hI12
            · rw [← S.mput_mapTo hy]; exact a12
      · have hie : i = x.length := by have := of_decide_eq_false hc3; omega
        subst hie
        have hall : x.all S.okSpan = true := by
          rw [List.all_eq_true]
          intro s hs
          exact hgood s (by rw [List.take_length]; exact hs)
        have hrr : (r0, r1) = (Span.mk (S.endsOf m x).2.1 (S.endsOf m x).2.2, 0) := by
          rw [← hr]; unfold S.betweenS; rw [if_neg (by rw [hok]; simp), if_neg (fun h => h hlen), if_pos hall]
        obtain ⟨rfl, rfl⟩ := Prod.mk.inj hrr
        refine cw_exit ?_
        refine exB_same ?_
        refine cw_seq ?_
        refine cw_regF ?_
        refine y_al hIW Try.zeroValue95 rfl rfl (fun b11 w7 hI7 a7 => ?_)
        refine Reg.nil ?_
        refine cw_seq ?_
        refine cw_regF ?_
        refine y_al hI7 Try.zeroValue4 rfl rfl (fun b12 w8 hI8 a8 => ?_)
        refine y_st 0 hI8 rfl rfl rfl rfl Try.sizeOf4 rfl rfl (one1 rfl one0) (fun w9 hI9 a9 => ?_)
        refine Reg.nil ?_
        have a39 := (aW.trans a7).trans (a8.trans a9)
        refine cw_seq ?_
        refine cw_regSea [0, 1, 2, 4, 5] [3, 6] [] [6] [[6, 0], [6, 3, 2, 1], [6, 5]] [] fol (by kernel_rfl) rfl (by kernel_rfl) rfl rfl ?_
        refine s_lda rfl (hI9.row 3 rfl).rd.cells Try.isAgg80 rfl Try.sizeOf80 rfl ?_
        refine s_fa rfl Try.underlying25 rfl Try.sizeOf3 rfl ?_
        refine s_ld rfl ((hI9.row 5 rfl).rd.cells.at 0 rfl) Try.isAgg3 rfl ?_
        refine s_mv rfl rfl ?_
        refine s_mf rfl rfl ?_
        refine Reg.nilX ⟨rfl, rfl, rfl, ?_⟩
        intro w10 ex10
        have hS := (Hp.start (Mu := []) hI9.mlt).ext ex10
        refine SeaWalk.step [3] (by kernel_rfl) (AllL.cons ?_ AllL.nil)
        refine ⟨_, [], rfl, RSub.nil, rfl, nodupB_spec rfl, ?_⟩
        simp only [relOut]
        have hmk : mko 8 (0 : Int) m.traits = some (List.replicate x.length 0) := by rw [← hlen]; exact mko_ok (by omega) (by omega)
        refine y_mk (E := (intE .i64)) (z := .int .i64 0) (z0 := 0) sl26 (by kernel_rfl) rfl (fun _ _ => ⟨rfl, by decide⟩) hS rfl rfl hmk rfl (fun v11 w11 hI11 a11 => ?_)
        refine Reg.nil ⟨rfl, .inr hI11.kp, rfl, ?_⟩
        intro w12 ex12
        have hI12 := (hI9.join hI11).ext ex12
        have a12 := ((Adv.of_ext ex10).trans a11).trans (Adv.of_ext ex12)
        refine SeaWalk.step [6] (by kernel_rfl) (AllL.cons ?_ AllL.nil)
        refine ⟨_, [], rfl, RSub.nil, rfl, nodupB_spec rfl, ?_⟩
        simp only [relOut]
        refine s_call rfl Try.call44 rfl ?_
        have aF : Adv (mm [rowR 45 b4 [.int .i64 0, .int .i64 0], rowR 25 b2 [.int .i64 m.traits, v_m_1, v_m_2, .int .i64 m.need]] M) (b12 :: b11 :: M) w3 w12 :=
          (a39.trans a12).trans (Adv.drop fun b hb => mem_mm.2 (.inr (sub2 0 1 rfl rfl b hb)))
        have hrow12 := hI12.row 1 rfl
        have hrow11 := hI12.row 2 rfl
        have hrow4 := hI12.row 5 rfl
        have hn12 : w.heap.size ≤ b12 := ((hI12.own _ (List.mem_of_getElem? (i := 1) rfl)).2 b12 (by simp [rowR])).elim (fun h => by cases h) id
        have hn11 : w.heap.size ≤ b11 := ((hI12.own _ (List.mem_of_getElem? (i := 2) rfl)).2 b11 (by simp [rowR])).elim (fun h => by cases h) id
        have hn4 : w.heap.size ≤ b4 := ((hI12.own _ (List.mem_of_getElem? (i := 5) rfl)).2 b4 (by simp [rowR])).elim (fun h => by cases h) id
        have hne1 : b12 ≠ b11 := fun e => hI12.dis 1 2 _ _ rfl rfl (by omega) b12 (by simp [rowR]) (by simp [rowR, e])
        have hne2 : b4 ≠ b12 := fun e => hI12.dis 5 1 _ _ rfl rfl (by omega) b4 (by simp [rowR]) (by simp [rowR, e])
        have hne3 : b4 ≠ b11 := fun e => hI12.dis 5 2 _ _ rfl rfl (by omega) b4 (by simp [rowR]) (by simp [rowR, e])
        have hM2 : MLt (b12 :: b11 :: M) w12 := fun b hb => hI12.mlt b (sub2 1 2 rfl rfl b hb)
        have c6 := (hI12.freezeRow 4 rfl).adv (Adv.drop (sub2 1 2 rfl rfl))
        have fz := (hI12.freeze 0 rfl).adv (Adv.drop (sub2 0 1 rfl rfl))
        have fmm := (hI12.mapRd 3 rfl).adv (Adv.drop (sub2 1 2 rfl rfl))
        refine (try_ok (heldB b12 b11) (wk := Works.mk m (S.partsOf m)) (lists := S.listsOf m x) (D := fun y => S.valuesOk m y = true) (so := fun s y => (false, updB s (S.score m y))) (fp := [b12, b11]) (s := (true, 0, 0)) x.length hlen.symm (S.values_in hlen) (S.lists_set hall) (fun _ _ _ _ _ => trivial) (S.lists_ok hok hlen hall) (by omega)
          hM2 g0 (g1.adv aF) (g2.adv aF) g3 (g4.adv aF) fz fmm ⟨rfl, rfl⟩ (between1 g0 (g1.adv aF) (g2.adv aF) g3 (g4.adv aF) c6 hne1 fun y hy => S.p_worksScore m y hok hy) ⟨rfl, hrow12, hrow11, (by decide), (by decide)⟩ (fun c hc => by
            rcases List.mem_cons.1 hc with rfl | hc
            · exact List.mem_cons_self ..
            · have : c = b11 := by simpa using hc
              subst this; exact List.mem_cons_of_mem _ (List.mem_cons_self ..)) trivial (S.values_zero hlen)).mono ?_
        rintro _ w13 ⟨rfl, hk13, fp13, ⟨rfl, hrf, hre, hia, hib⟩, _⟩
        refine ⟨_, rfl, ?_⟩
        refine Reg.nil ⟨rfl, .inl rfl, rfl, ?_⟩
        intro w14 ex14
        refine SeaWalk.done ?_
        have hre14 := hre.kp ex14 (by simp)
        have hr14 : Row 45 w14 b4 [.int .i64 0, .int .i64 0] := (hrow4.kp hk13 (by simp [hne2, hne3])).kp ex14 (by simp)
        refine cw_seq ?_
        refine cw_regF ?_
        refine s_iarr 0 rfl rfl Try.underlying95 (by decide) Try.sizeOf3 rfl ?_
        refine s_ld rfl (hre14.rd.cells.at 0 rfl) Try.isAgg3 rfl ?_
        refine s_iarr 1 rfl rfl Try.underlying95 (by decide) Try.sizeOf3 rfl ?_
        refine s_ld rfl (hre14.rd.cells.at 1 rfl) Try.isAgg3 rfl ?_
        refine s_bd [(0, 1), (1, 1)] Try.zeroValue45 rfl Try.underlying45 (fun _ => by simp [Try.sizeOf3]) rfl (Cls.cons rfl (Cls.cons rfl Cls.nil)) rfl rfl ?_
        refine s_st rfl rfl rfl hr14 Try.sizeOf45 rfl rfl (one1 rfl (one1 rfl one0)) (fun w15 hr15 hk15 => ?_)
        refine s_as rfl rfl ?_
        refine Reg.nil ?_
        refine cw_ret ?_
        refine fin_any Try.results22 (AllRs.cons (RsOk.agg rfl hr15.rd.cells Try.isAgg45 rfl Try.sizeOf45) (AllRs.cons (RsOk.tmp rfl) (AllRs.nil))) rfl ?_
        refine ⟨rfl, hia, hib, (by decide), ?_⟩
        refine ((hI12.kp.tail hk13 fun c hc => .inr ?_).trans ex14).tail hk15 fun c hc => .inr ?_
        · rcases List.mem_cons.1 hc with rfl | hc
          · exact hn12
          · have : c = b11 := by simpa using hc
            subst this; exact hn11
        · have : c = b4 := by simpa using hc
          subst this; exact hn4
end Go.Proofs.Ytecmlmngcnionaa
