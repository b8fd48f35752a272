/-
  Part 10 of the texts that the statement's proof stands on: what memory holds, how code is walked, what the functions reckon. In the order in which they build.
-/

import Derived.Test.YtecmlmngcnionaaGreatSr9
set_option linter.unusedVariables false
namespace Go.Sx
open Go Go.RowKit
section
variable {P : Program} {N : Nat} {ops : Array Oper} {q : Md} {rest : List Oper} {ds : List Deferred} {L : Env} {w : World} {A B : Out} {X : Nat → Out} {Z : List PanicEntry → Out} {d : Nat} {ty : TypeId} {pos : String} {af : Array Edge}
theorem s_neNil {t t' e : TypeId} {x y : Operand} (hx : ev L x = some (.slice none 0 0)) (hy : ev L y = some (.slice none 0 0)) (ht : P.underlying t = some (.slice e)) (hN : Nat.blt d N = true)
    (h : Reg P N ops q rest ds ((d, .bool false) :: L) w A B X Z) : Reg P N ops q (⟨some d, .binOp .neq t x y t', ty, pos, af, none⟩ :: rest) ds L w A B X Z := by
  refine Reg.val (.bool false) rfl rfl hN (fun a' ha w' _ => ?_) h
  have he : (Op.equal t (.slice none 0 0) (.slice none 0 0)).run P w' = .ok true w' := by
    have key : ∀ n, (Op.equalIn (n + 1) t (.slice none 0 0) (.slice none 0 0)).run P w' = .ok true w' := fun n => by simp [Op.equalIn, run_underlying ht]
    exact key 9999
  have hg : eqGuard .neq t x y (.slice none 0 0) (.slice none 0 0) = pure () := by rfl
  simp [execOp, ha.eval hx, ha.eval hy, hg, binOp, he]
/-- A slice that holds something, against nil. -/
theorem s_neFull {α : Type} {E : Enc α} {M : List Nat} {w0 : World} {xs : List α} {t t' e : TypeId} {x y : Operand} {v : Value} (hv : RdS E M w0 v xs) (hne : xs ≠ []) (hx : ev L x = some v) (hy : ev L y = some (.slice none 0 0)) (ht : P.underlying t = some (.slice e)) (hN : Nat.blt d N = true)
    (h : Reg P N ops q rest ds ((d, .bool true) :: L) w A B X Z) : Reg P N ops q (⟨some d, .binOp .neq t x y t', ty, pos, af, none⟩ :: rest) ds L w A B X Z := by
  obtain ⟨a, c, rfl, _, _, h3⟩ := hv
  obtain ⟨b, o, rfl, _⟩ := h3.resolve_left hne
  refine Reg.val (.bool true) rfl rfl hN (fun a' ha w' _ => ?_) h
  have he : (Op.equal t (.slice (some ⟨b, o, none⟩) xs.length c) (.slice none 0 0)).run P w' = .ok false w' := by
    have key : ∀ n, (Op.equalIn (n + 1) t (.slice (some ⟨b, o, none⟩) xs.length c) (.slice none 0 0)).run P w' = .ok false w' := fun n => by simp [Op.equalIn, run_underlying ht]
    exact key 9999
  have hg : eqGuard .neq t x y (.slice (some ⟨b, o, none⟩) xs.length c) (.slice none 0 0) = pure () := by rfl
  simp [execOp, ha.eval hx, ha.eval hy, hg, binOp, he]
end
end Go.Sx
namespace Go.Proofs.YtecmlmngcnionaaGreat
open Go Go.Sx Go.RowKit
namespace S
def stepQ (m : Model) (x : List Int) (st : List Int × List Int) (l : List Int) : List Int × List Int :=
  if st.1 ≠ [] ∧ ¬ setc l st.1 < 0 then st else if (tryR m x l).1 = true then (l, (tryR m x l).2) else st
theorem stepQ_skip {m : Model} {x : List Int} {b v l : List Int} (h1 : b ≠ []) (h2 : ¬ setc l b < 0) : stepQ m x (b, v) l = (b, v) := if_pos ⟨h1, h2⟩
theorem stepQ_try {m : Model} {x : List Int} {b v l : List Int} (h : b = [] ∨ setc l b < 0) : stepQ m x (b, v) l = if (tryR m x l).1 = true then (l, (tryR m x l).2) else (b, v) := if_neg fun h' => h.elim (fun e => h'.1 e) (fun e => h'.2 e)
def stQ (m : Model) (x : List Int) : Nat → List Int × List Int
  | 0 => ([], [])
  | k + 1 => stepQ m x (stQ m x k) (setOf x.length (k + 1))
theorem setsAll_nodup : ∀ n : Nat, n ≤ 5 → (setsAll n).Nodup := by
  intro n hn
  have : n = 0 ∨ n = 1 ∨ n = 2 ∨ n = 3 ∨ n = 4 ∨ n = 5 := by omega
  rcases this with rfl | rfl | rfl | rfl | rfl | rfl <;> decide +kernel
theorem setOf_ne : ∀ n : Nat, n ≤ 5 → ∀ b, b < 2 ^ n → b ≠ 0 → setOf n b ≠ [] := by
  intro n hn
  have : n = 0 ∨ n = 1 ∨ n = 2 ∨ n = 3 ∨ n = 4 ∨ n = 5 := by omega
  rcases this with rfl | rfl | rfl | rfl | rfl | rfl <;> decide +kernel
theorem setOf_zero : ∀ n : Nat, n ≤ 5 → setOf n 0 = [] := by
  intro n hn
  have : n = 0 ∨ n = 1 ∨ n = 2 ∨ n = 3 ∨ n = 4 ∨ n = 5 := by omega
  rcases this with rfl | rfl | rfl | rfl | rfl | rfl <;> decide +kernel
def btr (a b : List Int) : Bool := decide (setc a b < 0)
theorem setc_self (a : List Int) : setc a a = 0 := by have := setc_anti a a; omega
theorem sets_strict {n : Nat} (hn : n ≤ 5) : (setsS n).Pairwise fun a b => btr a b = true ∧ btr b a = false := by
  have h1 := sets_asc n
  have h2 : (setsS n).Nodup := (List.mergeSort_perm (setsAll n) _).nodup_iff.2 (setsAll_nodup n hn)
  refine (h1.and h2).imp fun {a b} h => ?_
  have h3 : ¬ setc b a ≤ 0 := fun h' => h.2 (setc_zero a b h.1 h')
  have h4 := setc_anti a b
  exact ⟨decide_eq_true (by omega), decide_eq_false (by omega)⟩
theorem setOf_in {n : Nat} (hn : n ≤ 5) {b : Nat} (hb : b < 2 ^ n) (h0 : b ≠ 0) : setOf n b ∈ setsS n := by
  unfold setsS
  rw [List.mem_mergeSort]
  unfold setsAll
  refine List.mem_filter.2 ⟨List.mem_map.2 ⟨b, List.mem_range.2 hb, rfl⟩, ?_⟩
  rw [decide_eq_true_eq]
  exact List.length_pos_iff.2 (setOf_ne n hn b hb h0)
def inB {α : Type} [DecidableEq α] (a : α) (l : List α) : Bool := decide (a ∈ l)
def preQ (n k : Nat) : List (List Int) := (List.range k).map fun i => setOf n (i + 1)
def toQ (m : Model) (x : List Int) : Option (List Int) → List Int × List Int
  | none => ([], [])
  | some l => (l, (tryR m x l).2)
theorem stQ_is (m : Model) (x : List Int) (hn : x.length ≤ 5) : ∀ k, k + 1 ≤ 2 ^ x.length → stQ m x k = toQ m x ((setsS x.length).find? fun l => (tryR m x l).1 && inB l (preQ x.length k))
  | 0, _ => by
    have : (setsS x.length).find? (fun l => (tryR m x l).1 && inB l (preQ x.length 0)) = none := by
      rw [List.find?_eq_none]
      intro l _
      simp [preQ, inB]
    rw [this]; rfl
  | k + 1, hk => by
    have ih := stQ_is m x hn k (by omega)
    have hl := setOf_in hn (b := k + 1) (by omega) (by omega)
    have hpre : preQ x.length (k + 1) = preQ x.length k ++ [setOf x.length (k + 1)] := by
      unfold preQ
      rw [List.range_succ, List.map_append]; rfl
    rw [hpre]
    refine Eq.trans ?_ (congrArg (toQ m x) (best_step btr (fun l => (tryR m x l).1) (sets_strict hn) (fun a => decide_eq_false (by rw [setc_self]; omega)) hl))
    show stepQ m x (stQ m x k) (setOf x.length (k + 1)) = toQ m x (bestF btr (fun l => (tryR m x l).1) ((setsS x.length).find? fun l => (tryR m x l).1 && inB l (preQ x.length k)) (setOf x.length (k + 1)))
    rw [ih]
    cases hF : (setsS x.length).find? fun l => (tryR m x l).1 && inB l (preQ x.length k) with
    | none =>
      show stepQ m x ([], []) (setOf x.length (k + 1)) = toQ m x (if (tryR m x (setOf x.length (k + 1))).1 = true then some (setOf x.length (k + 1)) else none)
      rw [stepQ_try (.inl rfl)]
      split <;> rfl
    | some b =>
      have hb : b ≠ [] := (setsS_mem (List.mem_of_find?_eq_some hF)).2.2
      show stepQ m x (b, (tryR m x b).2) (setOf x.length (k + 1)) = toQ m x (if btr (setOf x.length (k + 1)) b = true then (if (tryR m x (setOf x.length (k + 1))).1 = true then some (setOf x.length (k + 1)) else some b) else some b)
      by_cases h1 : setc (setOf x.length (k + 1)) b < 0
      · have hb2 : btr (setOf x.length (k + 1)) b = true := decide_eq_true h1
        rw [stepQ_try (.inr h1), if_pos hb2]
        split <;> rfl
      · have hb2 : ¬ btr (setOf x.length (k + 1)) b = true := by unfold btr; simpa using h1
        rw [stepQ_skip hb h1, if_neg hb2]; rfl
theorem stQ_all (m : Model) (x : List Int) (hn : x.length ≤ 5) (k : Nat) (hk : k + 1 = 2 ^ x.length) : stQ m x k = toQ m x ((setsS x.length).find? fun l => (tryR m x l).1) := by
  rw [stQ_is m x hn k (by omega)]
  congr 1
  refine find_congr fun l hl => ?_
  have : l ∈ preQ x.length k := by
    unfold setsS at hl
    rw [List.mem_mergeSort] at hl
    unfold setsAll at hl
    obtain ⟨h1, h2⟩ := List.mem_filter.1 hl
    obtain ⟨b, hb, rfl⟩ := List.mem_map.1 h1
    have hb := List.mem_range.1 hb
    have h0 : b ≠ 0 := fun e => by
      subst e
      rw [setOf_zero _ hn] at h2; simp at h2
    exact List.mem_map.2 ⟨b - 1, List.mem_range.2 (by omega), by rw [show b - 1 + 1 = b by omega]⟩
  simp [inB, this]
theorem setOf_ls (n b : Nat) : setOf n b = lsOf n (bitB b) := rfl
end S
open Classical in
noncomputable def P.ref06_Reasons (m : Model) (x : List Int) : Option (List Int × List Int × Int) := if S.Small m ∧ x.length ≤ 10 then some (S.reasonsS m x) else none
set_option maxRecDepth 100000 in
set_option maxHeartbeats 8000000 in
theorem C_ref06_Reasons {M : List Nat} {w : World} (hM : MLt M w) {m : Model} {v_m_1 : Value} {v_m_2 : Value} (f_m_0 : InK IntKind.i64 m.traits) (f_m_1 : RdS CardE M w v_m_1 m.cards) (f_m_2 : RdS TreeE M w v_m_2 m.trees) (f_m_3 : InK IntKind.i64 m.need) {x : (List Int)} {v_x_0 : Value} (f_x_0 : RdS (intE .i64) M w v_x_0 x) {r0 : List Int} {r1 : List Int} {r2 : Int} (h : P.ref06_Reasons m x = some (r0, r1, r2)) :
    Calls Tryz.prog 7 (List.toArray [Value.agg (List.toArray [Value.int IntKind.i64 m.traits, v_m_1, v_m_2, Value.int IntKind.i64 m.need]), v_x_0]) w fun e w' => ∃ v0_0 : Value, ∃ v1_0 : Value, e = .returned (Value.tuple (List.toArray [v0_0, v1_0, Value.int IntKind.i64 r2])) ∧ RdS (intE .i64) M w' v0_0 r0 ∧ RdS (intE .i64) M w' v1_0 r1 ∧ InK IntKind.i64 r2 ∧ Ext w w' := by
  obtain ⟨⟨hsm, hx10⟩, hr⟩ : (S.Small m ∧ x.length ≤ 10) ∧ S.reasonsS m x = (r0, r1, r2) := by
    unfold P.ref06_Reasons at h
    split at h
    · rename_i h1; exact ⟨h1, Option.some.inj h⟩
    · cases h
  have hI := Hp.start (Mu := []) hM
  refine calls_cw Tryz.func7 rfl Tryz.ntmps7 rfl ?_
  refine cw_seq ?_
  refine cw_regF ?_
  refine y_box hI rfl rfl rfl (fun b2 w1 hI1 a1 => ?_)
  refine s_as rfl rfl ?_
  refine s_as rfl rfl ?_
  refine s_as rfl rfl ?_
  refine Reg.nil ?_
  refine cw_seq ?_
  refine cw_regF ?_
  refine s_lda rfl (hI1.row 0 rfl).rd.cells Tryz.isAgg25 rfl Tryz.sizeOf25 rfl ?_
  refine s_mv rfl rfl ?_
  refine s_call rfl Tryz.call16 rfl ?_
  refine (C_ref06_Score hI1.mlt f_m_0 (f_m_1.adv hI1.adv) (f_m_2.adv hI1.adv) f_m_3 (f_x_0.adv hI1.adv) (S.p_Score m x hsm hx10)).mono ?_
  rintro _ w2 ⟨rfl, g0, g1, ex2⟩
  refine ⟨_, rfl, ?_⟩
  have hI2 := hI1.ext ex2
  refine s_mv rfl rfl ?_
  refine s_xt rfl rfl rfl ?_
  refine s_xt rfl rfl rfl ?_
  refine s_xt rfl rfl rfl ?_
  refine s_as rfl rfl ?_
  refine s_as rfl rfl ?_
  refine s_as rfl rfl ?_
  refine Reg.nil ?_
  refine cw_seq ?_
  refine cw_seq ?_
  refine cw_regF ?_
  refine s_mv rfl rfl ?_
  refine s_neq rfl rfl rfl ?_
  refine Reg.nil ?_
  refine cw_cond rfl (fun hc => ?_) (fun hc => ?_)
  · have hne : ¬ S.err m x = 0 := nd_true hc
    have hrr : (r0, r1, r2) = ([], [], S.err m x) := by rw [← hr]; unfold S.reasonsS; rw [if_neg hne]
    obtain ⟨e0, hrr2⟩ := Prod.mk.inj hrr
    obtain ⟨e1, e2⟩ := Prod.mk.inj hrr2
    subst e0 e1 e2
    refine cw_seq ?_
    refine cw_regF ?_
    refine s_mv rfl rfl ?_
    refine s_as rfl rfl ?_
    refine s_as rfl rfl ?_
    refine s_as rfl rfl ?_
    refine Reg.nil ?_
    refine cw_ret ?_
    refine fin_any Tryz.results7 (AllRs.cons (RsOk.tmp rfl) (AllRs.cons (RsOk.tmp rfl) (AllRs.cons (RsOk.tmp rfl) (AllRs.nil)))) rfl ?_
    exact ⟨_, _, rfl, RdS.nil _ _ _, RdS.nil _ _ _, g1, hI2.kp⟩
  · have h0 : S.err m x = 0 := nd_false hc
    have hok : S.modelOk m = true := by
      unfold S.err at h0
      split at h0
      · assumption
      · cases h0
    have hv : S.valuesOk m x = true := by
      unfold S.err at h0
      rw [if_pos hok] at h0
      split at h0
      · assumption
      · cases h0
    have hlen : (x.length : Int) = m.traits := (S.valuesOk_iff.1 hv).1
    have hx5 : x.length ≤ 5 := by have := S.modelOk_iff.1 hok; omega
    have hyes : (S.modelOk m && S.valuesOk m x && decide (1000 * m.need ≤ S.score m x)) = S.enB m (S.score m x) := by rw [hok, hv, S.enB_is]; rfl
    have h2n : (2 ^ x.length : Nat) ≤ 32 := Nat.pow_le_pow_right (by omega) hx5
    have h2p : 1 ≤ (2 ^ x.length : Nat) := Nat.one_le_two_pow
    have hsh : shlO .i64 1 m.traits = some ((2 ^ x.length : Nat) : Int) := by
      rw [← hlen]
      have : x.length = 0 ∨ x.length = 1 ∨ x.length = 2 ∨ x.length = 3 ∨ x.length = 4 ∨ x.length = 5 := by omega
      rcases this with e | e | e | e | e | e <;> rw [e] <;> rfl
    refine cw_skip ?_
    refine cw_seq ?_
    refine cw_regF ?_
    refine s_as rfl rfl ?_
    refine s_as rfl rfl ?_
    refine Reg.nil ?_
    refine cw_seq ?_
    refine cw_seq ?_
    refine cw_regF ?_
    refine s_as rfl rfl ?_
    refine Reg.nil ?_
    refine cw_block ?_
    refine cw_loop (fun i : Nat × Value × Value => [(12, .int .i64 ((i.1 : Int) + 1)), (11, i.2.2), (10, i.2.1), (8, .bool (S.modelOk m && S.valuesOk m x && decide (1000 * m.need ≤ S.score m x))), (2, .pointer (some ⟨b2, 0, none⟩)), (1, v_x_0)])
      (fun i W => i.1 + 1 ≤ 2 ^ x.length ∧ Hp w [] M [rowR 25 b2 [.int .i64 m.traits, v_m_1, v_m_2, .int .i64 m.need]] W ∧ RdS (intE .i64) (mm [rowR 25 b2 [.int .i64 m.traits, v_m_1, v_m_2, .int .i64 m.need]] M) W i.2.1 (S.stQ m x i.1).1 ∧ ((S.stQ m x i.1).1 = [] → i.2.1 = .slice none 0 0) ∧ RdS (intE .i64) (mm [rowR 25 b2 [.int .i64 m.traits, v_m_1, v_m_2, .int .i64 m.need]] M) W i.2.2 (S.stQ m x i.1).2)
      (fun i => 2 ^ x.length - i.1) (0, .slice none 0 0, .slice none 0 0) ⟨h2p, hI2, RdS.nil _ _ _, fun _ => rfl, RdS.nil _ _ _⟩ (Sub.cons rfl (Sub.cons rfl (Sub.cons rfl (Sub.cons rfl (Sub.cons rfl (Sub.cons rfl (Sub.nil _))))))) ?_
    rintro ⟨k, vb, vv⟩ W ⟨hk, hIW, hvb, hnil, hvv⟩
    dsimp only at hk hvb hnil hvv
    refine cw_seq ?_
    refine cw_seq ?_
    refine cw_regF ?_
    refine s_mv rfl rfl ?_
    refine s_fa rfl Tryz.underlying25 rfl Tryz.sizeOf3 rfl ?_
    refine s_ld rfl ((hIW.row 0 rfl).rd.cells.at 0 rfl) Tryz.isAgg3 rfl ?_
    refine p_shl rfl rfl rfl hsh ?_
    refine s_lss rfl rfl rfl ?_
    refine Reg.nil ?_
    refine cw_cond rfl (fun hc3 => ?_) (fun hc3 => ?_)
    · have hlt : k + 1 < 2 ^ x.length := by have := of_decide_eq_true hc3; omega
      have hset := S.p_refset x.length (k + 1) hx5 (by omega)
      rw [hlen, Int.natCast_add] at hset
      have hoth := S.p_other (m := m) (x := x) (f := S.bitB (k + 1)) hok hv
      rw [← S.setOf_ls] at hoth
      have hst1 : S.stQ m x (k + 1) = S.stepQ m x (S.stQ m x k) (S.setOf x.length (k + 1)) := rfl
      have hlne := S.setOf_ne x.length hx5 (k + 1) hlt (by omega)
      have hll : (S.setOf x.length (k + 1)).length ≤ x.length := S.setOf_len
      generalize S.setOf x.length (k + 1) = l at *
      have hbl : (S.stQ m x k).1.length ≤ 1000 := by
        rw [S.stQ_is m x hx5 k hk]
        cases hF : (S.setsS x.length).find? fun l => (S.tryR m x l).1 && S.inB l (S.preQ x.length k) with
        | none => simp [S.toQ]
        | some b =>
          have := (S.setsS_mem (List.mem_of_find?_eq_some hF)).2.1
          simp only [S.toQ]; omega
      generalize hQ : S.stQ m x k = Q at *
      obtain ⟨bb, bv⟩ := Q
      dsimp only at hvb hnil hvv hbl
      refine cw_skip ?_
      refine cw_seq ?_
      refine cw_block ?_
      refine cw_seq ?_
      refine cw_regF ?_
      refine s_mv rfl rfl ?_
      refine s_fa rfl Tryz.underlying25 rfl Tryz.sizeOf3 rfl ?_
      refine s_ld rfl ((hIW.row 0 rfl).rd.cells.at 0 rfl) Tryz.isAgg3 rfl ?_
      refine s_call rfl Tryz.call17 rfl ?_
      refine (C_ref06_set hIW.mlt (InK.i64.2 (by omega)) f_m_0 hset).mono ?_
      rintro _ w3 ⟨vl, rfl, hos, ex3⟩
      refine ⟨_, rfl, ?_⟩
      have hI3 := hIW.ext ex3
      have hvl : RdS (intE .i64) (mm [rowR 25 b2 [.int .i64 m.traits, v_m_1, v_m_2, .int .i64 m.need]] M) w3 vl l := hos.1.rd fun b hb hb' => by
        have h1 := hos.2 b hb
        have h2 := hIW.mlt b hb'
        omega
      replace hvb := hvb.adv (Adv.of_ext ex3)
      replace hvv := hvv.adv (Adv.of_ext ex3)
      refine s_as rfl rfl ?_
      refine Reg.nil ?_
      -- what is left of a round, once it is to be tried
      refine cw_seq ?_
      refine cw_seq ?_
      refine cw_regF ?_
      refine s_mv rfl rfl ?_
      by_cases hbn : bb = []
      · have hv0 := hnil hbn
        subst hv0
        subst hbn
        refine s_neNil rfl rfl Tryz.underlying26 rfl ?_
        refine s_mv rfl rfl ?_
        iterate 6 refine Reg.pass rfl rfl rfl rfl ?_
        iterate 6 refine Reg.passU rfl rfl rfl ?_
        iterate 4 refine Reg.passU rfl rfl rfl ?_
        refine Reg.passU rfl rfl rfl ?_
        refine Reg.pass rfl rfl rfl rfl ?_
        refine s_pkF rfl rfl rfl ?_
        refine Reg.nil ?_
        refine cw_condF rfl ?_
        refine cw_skip ?_
        have hstep : S.stepQ m x ([], bv) l = if (S.tryR m x l).1 = true then (l, (S.tryR m x l).2) else ([], bv) := by
          unfold S.stepQ
          rw [if_neg (fun h => h.1 rfl)]
        refine cw_seq ?_
        refine cw_regF ?_
        refine s_lda rfl (hI3.row 0 rfl).rd.cells Tryz.isAgg25 rfl Tryz.sizeOf25 rfl ?_
        refine s_mv rfl rfl ?_
        refine s_mv rfl rfl ?_
        refine s_mv rfl rfl ?_
        refine s_call rfl Tryz.call19 rfl ?_
        rw [← hyes] at hoth
        refine (C_ref06_other hI3.mlt f_m_0 (f_m_1.adv hI3.adv) (f_m_2.adv hI3.adv) f_m_3 (f_x_0.adv hI3.adv) hvl hoth).mono ?_
        rintro _ w5 ⟨vo, rfl, hoo, ex5⟩
        refine ⟨_, rfl, ?_⟩
        have hI5 := hI3.ext ex5
        have hvo : RdS (intE .i64) (mm [rowR 25 b2 [.int .i64 m.traits, v_m_1, v_m_2, .int .i64 m.need]] M) w5 vo (S.tryR m x l).2 := hoo.1.rd fun b hb hb' => by
          have h1 := hoo.2 b hb
          have h2 := hI3.mlt b hb'
          omega
        replace hvl := hvl.adv (Adv.of_ext ex5)
        replace hvb := hvb.adv (Adv.of_ext ex5)
        replace hvv := hvv.adv (Adv.of_ext ex5)
        refine s_mv rfl rfl ?_
        refine s_xt rfl rfl rfl ?_
        refine s_xt rfl rfl rfl ?_
        refine s_as rfl rfl ?_
        refine s_as rfl rfl ?_
        refine Reg.nil ?_
        refine cw_seq ?_
        refine cw_regF ?_
        refine s_mv rfl rfl ?_
        refine Reg.nil ?_
        refine cw_cond rfl (fun hc5 => ?_) (fun hc5 => ?_)
        · refine cw_regF ?_
          refine s_mv rfl rfl ?_
          refine s_mv rfl rfl ?_
          refine s_as rfl rfl ?_
          refine s_as rfl rfl ?_
          refine Reg.nil ?_
          refine cw_regF ?_
          refine s_mv rfl rfl ?_
          refine p_add rfl rfl rfl (n := (((k + 1 : Nat) : Int) + 1)) ⟨by omega, by rw [InK.i64]; omega⟩ ?_
          refine s_as rfl rfl ?_
          refine Reg.nil ⟨rfl, (k + 1, vl, vo), ⟨hlt, hI5, ?_, ?_, ?_⟩, Sub.cons rfl (Sub.cons rfl (Sub.cons rfl (Sub.cons rfl (Sub.cons rfl (Sub.cons rfl (Sub.nil _)))))), by dsimp only; omega⟩
          · dsimp only; rw [hst1, hstep, if_pos (show (S.tryR m x l).1 = true from hc5)]; exact hvl
          · dsimp only; rw [hst1, hstep, if_pos (show (S.tryR m x l).1 = true from hc5)]; exact fun e => absurd e hlne
          · dsimp only; rw [hst1, hstep, if_pos (show (S.tryR m x l).1 = true from hc5)]; exact hvo
        · refine cw_skip ?_
          refine cw_regF ?_
          refine s_mv rfl rfl ?_
          refine p_add rfl rfl rfl (n := (((k + 1 : Nat) : Int) + 1)) ⟨by omega, by rw [InK.i64]; omega⟩ ?_
          refine s_as rfl rfl ?_
          refine Reg.nil ⟨rfl, (k + 1, .slice none 0 0, vv), ⟨hlt, hI5, ?_, ?_, ?_⟩, Sub.cons rfl (Sub.cons rfl (Sub.cons rfl (Sub.cons rfl (Sub.cons rfl (Sub.cons rfl (Sub.nil _)))))), by dsimp only; omega⟩
          · dsimp only; rw [hst1, hstep, if_neg (fun e => by rw [show (S.tryR m x l).1 = false from hc5] at e; cases e)]; exact hvb
          · dsimp only; rw [hst1, hstep, if_neg (fun e => by rw [show (S.tryR m x l).1 = false from hc5] at e; cases e)]; exact fun _ => rfl
          · dsimp only; rw [hst1, hstep, if_neg (fun e => by rw [show (S.tryR m x l).1 = false from hc5] at e; cases e)]; exact hvv
      · refine s_neFull hvb hbn rfl rfl Tryz.underlying26 rfl ?_
        refine s_mv rfl rfl ?_
        refine Reg.take rfl rfl ?_
        refine s_mv rfl rfl ?_
        refine Reg.take rfl rfl ?_
        refine s_len rfl hvl Tryz.underlying26 rfl ?_
        refine Reg.take rfl rfl ?_
        refine s_mv rfl rfl ?_
        refine Reg.take rfl rfl ?_
        refine s_len rfl hvb Tryz.underlying26 rfl ?_
        refine Reg.take rfl rfl ?_
        refine s_gtr rfl rfl rfl ?_
        refine Reg.take rfl rfl ?_
        refine s_mv rfl rfl ?_
        refine Reg.gsplit (t := 45) rfl (fun hg => ?_) (fun hg => ?_)
        · have hg := of_decide_eq_true hg
          iterate 6 refine Reg.pass rfl rfl rfl rfl ?_
          iterate 4 refine Reg.passU rfl rfl rfl ?_
          refine Reg.pass rfl rfl rfl rfl ?_
          refine Reg.take rfl rfl ?_
          refine s_pkT rfl rfl rfl ?_
          refine s_pkT rfl rfl rfl ?_
          refine Reg.nil ?_
          refine cw_condT rfl ?_
          have hstep : S.stepQ m x (bb, bv) l = (bb, bv) := by
            unfold S.stepQ
            rw [if_pos ⟨hbn, by unfold S.setc; rw [if_neg (by dsimp only; omega)]; dsimp only; omega⟩]
          refine cw_exit ?_
          refine exB_same ?_
          refine cw_regF ?_
          refine s_mv rfl rfl ?_
          refine p_add rfl rfl rfl (n := (((k + 1 : Nat) : Int) + 1)) ⟨by omega, by rw [InK.i64]; omega⟩ ?_
          refine s_as rfl rfl ?_
          refine Reg.nil ⟨rfl, (k + 1, vb, vv), ⟨hlt, hI3, ?_, ?_, ?_⟩, Sub.cons rfl (Sub.cons rfl (Sub.cons rfl (Sub.cons rfl (Sub.cons rfl (Sub.cons rfl (Sub.nil _)))))), by dsimp only; omega⟩
          · dsimp only; rw [hst1, hstep]; exact hvb
          · dsimp only; rw [hst1, hstep]; exact hnil
          · dsimp only; rw [hst1, hstep]; exact hvv
        · have hg := of_decide_eq_false hg
          refine Reg.take rfl rfl ?_
          refine s_mv rfl rfl ?_
          refine Reg.take rfl rfl ?_
          refine s_len rfl hvl Tryz.underlying26 rfl ?_
          refine Reg.take rfl rfl ?_
          refine s_mv rfl rfl ?_
          refine Reg.take rfl rfl ?_
          refine s_len rfl hvb Tryz.underlying26 rfl ?_
          refine Reg.take rfl rfl ?_
          refine s_eql rfl rfl rfl ?_
          refine Reg.take rfl rfl ?_
          refine s_mv rfl rfl ?_
          refine Reg.gsplit (t := 51) rfl (fun hg2 => ?_) (fun hg2 => ?_)
          · have hg2 := of_decide_eq_true hg2
            have hel : l.length = bb.length := by omega
            refine Reg.take rfl rfl ?_
            refine s_mv rfl rfl ?_
            refine Reg.take rfl rfl ?_
            refine s_mv rfl rfl ?_
            refine Reg.take rfl rfl ?_
            refine s_call rfl Tryz.call18 rfl ?_
            refine (C_ref06_earlier hI3.mlt hvl hvb (S.p_earlier l bb hel (by omega))).mono ?_
            rintro _ w4 ⟨rfl, ex4⟩
            refine ⟨_, rfl, ?_⟩
            replace hI3 := hI3.ext ex4
            replace hvl := hvl.adv (Adv.of_ext ex4)
            replace hvb := hvb.adv (Adv.of_ext ex4)
            replace hvv := hvv.adv (Adv.of_ext ex4)
            refine Reg.take rfl rfl ?_
            refine s_not rfl rfl ?_
            refine Reg.take rfl rfl ?_
            refine s_pkT rfl rfl rfl ?_
            refine Reg.take rfl rfl ?_
            refine s_pkF rfl rfl rfl ?_
            refine s_pkT rfl rfl rfl ?_
            refine Reg.nil ?_
            refine cw_cond rfl (fun hc4 => ?_) (fun hc4 => ?_)
            · have hstep : S.stepQ m x (bb, bv) l = (bb, bv) := by
                have : ¬ S.lexc l bb < 0 := by simpa using hc4
                unfold S.stepQ
                rw [if_pos ⟨hbn, by unfold S.setc; rw [if_pos (by exact hel)]; exact this⟩]
              refine cw_exit ?_
              refine exB_same ?_
              refine cw_regF ?_
              refine s_mv rfl rfl ?_
              refine p_add rfl rfl rfl (n := (((k + 1 : Nat) : Int) + 1)) ⟨by omega, by rw [InK.i64]; omega⟩ ?_
              refine s_as rfl rfl ?_
              refine Reg.nil ⟨rfl, (k + 1, vb, vv), ⟨hlt, hI3, ?_, ?_, ?_⟩, Sub.cons rfl (Sub.cons rfl (Sub.cons rfl (Sub.cons rfl (Sub.cons rfl (Sub.cons rfl (Sub.nil _)))))), by dsimp only; omega⟩
              · dsimp only; rw [hst1, hstep]; exact hvb
              · dsimp only; rw [hst1, hstep]; exact hnil
              · dsimp only; rw [hst1, hstep]; exact hvv
            · refine cw_skip ?_
              have hstep : S.stepQ m x (bb, bv) l = if (S.tryR m x l).1 = true then (l, (S.tryR m x l).2) else (bb, bv) := by
                have : S.lexc l bb < 0 := by simpa using hc4
                unfold S.stepQ
                rw [if_neg (fun h => h.2 (by unfold S.setc; rw [if_pos (by exact hel)]; exact this))]
              refine cw_seq ?_
              refine cw_regF ?_
              refine s_lda rfl (hI3.row 0 rfl).rd.cells Tryz.isAgg25 rfl Tryz.sizeOf25 rfl ?_
              refine s_mv rfl rfl ?_
              refine s_mv rfl rfl ?_
              refine s_mv rfl rfl ?_
              refine s_call rfl Tryz.call19 rfl ?_
              rw [← hyes] at hoth
              refine (C_ref06_other hI3.mlt f_m_0 (f_m_1.adv hI3.adv) (f_m_2.adv hI3.adv) f_m_3 (f_x_0.adv hI3.adv) hvl hoth).mono ?_
              rintro _ w5 ⟨vo, rfl, hoo, ex5⟩
              refine ⟨_, rfl, ?_⟩
              have hI5 := hI3.ext ex5
              have hvo : RdS (intE .i64) (mm [rowR 25 b2 [.int .i64 m.traits, v_m_1, v_m_2, .int .i64 m.need]] M) w5 vo (S.tryR m x l).2 := hoo.1.rd fun b hb hb' => by
                have h1 := hoo.2 b hb
                have h2 := hI3.mlt b hb'
                omega
              replace hvl := hvl.adv (Adv.of_ext ex5)
              replace hvb := hvb.adv (Adv.of_ext ex5)
              replace hvv := hvv.adv (Adv.of_ext ex5)
              refine s_mv rfl rfl ?_
              refine s_xt rfl rfl rfl ?_
              refine s_xt rfl rfl rfl ?_
              refine s_as rfl rfl ?_
              refine s_as rfl rfl ?_
              refine Reg.nil ?_
              refine cw_seq ?_
              refine cw_regF ?_
              refine s_mv rfl rfl ?_
              refine Reg.nil ?_
              refine cw_cond rfl (fun hc5 => ?_) (fun hc5 => ?_)
              · refine cw_regF ?_
                refine s_mv rfl rfl ?_
                refine s_mv rfl rfl ?_
                refine s_as rfl rfl ?_
                refine s_as rfl rfl ?_
                refine Reg.nil ?_
                refine cw_regF ?_
                refine s_mv rfl rfl ?_
                refine p_add rfl rfl rfl (n := (((k + 1 : Nat) : Int) + 1)) ⟨by omega, by rw [InK.i64]; omega⟩ ?_
                refine s_as rfl rfl ?_
                refine Reg.nil ⟨rfl, (k + 1, vl, vo), ⟨hlt, hI5, ?_, ?_, ?_⟩, Sub.cons rfl (Sub.cons rfl (Sub.cons rfl (Sub.cons rfl (Sub.cons rfl (Sub.cons rfl (Sub.nil _)))))), by dsimp only; omega⟩
                · dsimp only; rw [hst1, hstep, if_pos (show (S.tryR m x l).1 = true from hc5)]; exact hvl
                · dsimp only; rw [hst1, hstep, if_pos (show (S.tryR m x l).1 = true from hc5)]; exact fun e => absurd e hlne
                · dsimp only; rw [hst1, hstep, if_pos (show (S.tryR m x l).1 = true from hc5)]; exact hvo
              · refine cw_skip ?_
                refine cw_regF ?_
                refine s_mv rfl rfl ?_
                refine p_add rfl rfl rfl (n := (((k + 1 : Nat) : Int) + 1)) ⟨by omega, by rw [InK.i64]; omega⟩ ?_
                refine s_as rfl rfl ?_
                refine Reg.nil ⟨rfl, (k + 1, vb, vv), ⟨hlt, hI5, ?_, ?_, ?_⟩, Sub.cons rfl (Sub.cons rfl (Sub.cons rfl (Sub.cons rfl (Sub.cons rfl (Sub.cons rfl (Sub.nil _)))))), by dsimp only; omega⟩
                · dsimp only; rw [hst1, hstep, if_neg (fun e => by rw [show (S.tryR m x l).1 = false from hc5] at e; cases e)]; exact hvb
                · dsimp only; rw [hst1, hstep, if_neg (fun e => by rw [show (S.tryR m x l).1 = false from hc5] at e; cases e)]; exact hnil
                · dsimp only; rw [hst1, hstep, if_neg (fun e => by rw [show (S.tryR m x l).1 = false from hc5] at e; cases e)]; exact hvv
          · have hg2 := of_decide_eq_false hg2
            iterate 4 refine Reg.pass rfl rfl rfl rfl ?_
            refine Reg.take rfl rfl ?_
            refine s_pkF rfl rfl rfl ?_
            refine Reg.take rfl rfl ?_
            refine s_pkF rfl rfl rfl ?_
            refine s_pkT rfl rfl rfl ?_
            refine Reg.nil ?_
            refine cw_condF rfl ?_
            refine cw_skip ?_
            have hstep : S.stepQ m x (bb, bv) l = if (S.tryR m x l).1 = true then (l, (S.tryR m x l).2) else (bb, bv) := by
              unfold S.stepQ
              rw [if_neg (fun h => h.2 (by unfold S.setc; rw [if_neg (by dsimp only; omega)]; dsimp only; omega))]
            refine cw_seq ?_
            refine cw_regF ?_
            refine s_lda rfl (hI3.row 0 rfl).rd.cells Tryz.isAgg25 rfl Tryz.sizeOf25 rfl ?_
            refine s_mv rfl rfl ?_
            refine s_mv rfl rfl ?_
            refine s_mv rfl rfl ?_
            refine s_call rfl Tryz.call19 rfl ?_
            rw [← hyes] at hoth
            refine (C_ref06_other hI3.mlt f_m_0 (f_m_1.adv hI3.adv) (f_m_2.adv hI3.adv) f_m_3 (f_x_0.adv hI3.adv) hvl hoth).mono ?_
            rintro _ w5 ⟨vo, rfl, hoo, ex5⟩
            refine ⟨_, rfl, ?_⟩
            have hI5 := hI3.ext ex5
            have hvo : RdS (intE .i64) (mm [rowR 25 b2 [.int .i64 m.traits, v_m_1, v_m_2, .int .i64 m.need]] M) w5 vo (S.tryR m x l).2 := hoo.1.rd fun b hb hb' => by
              have h1 := hoo.2 b hb
              have h2 := hI3.mlt b hb'
              omega
            replace hvl := hvl.adv (Adv.of_ext ex5)
            replace hvb := hvb.adv (Adv.of_ext ex5)
            replace hvv := hvv.adv (Adv.of_ext ex5)
            refine s_mv rfl rfl ?_
            refine s_xt rfl rfl rfl ?_
            refine s_xt rfl rfl rfl ?_
            refine s_as rfl rfl ?_
            refine s_as rfl rfl ?_
            refine Reg.nil ?_
            refine cw_seq ?_
            refine cw_regF ?_
            refine s_mv rfl rfl ?_
            refine Reg.nil ?_
            refine cw_cond rfl (fun hc5 => ?_) (fun hc5 => ?_)
            · refine cw_regF ?_
              refine s_mv rfl rfl ?_
              refine s_mv rfl rfl ?_
              refine s_as rfl rfl ?_
              refine s_as rfl rfl ?_
              refine Reg.nil ?_
              refine cw_regF ?_
              refine s_mv rfl rfl ?_
              refine p_add rfl rfl rfl (n := (((k + 1 : Nat) : Int) + 1)) ⟨by omega, by rw [InK.i64]; omega⟩ ?_
              refine s_as rfl rfl ?_
              refine Reg.nil ⟨rfl, (k + 1, vl, vo), ⟨hlt, hI5, ?_, ?_, ?_⟩, Sub.cons rfl (Sub.cons rfl (Sub.cons rfl (Sub.cons rfl (Sub.cons rfl (Sub.cons rfl (Sub.nil _)))))), by dsimp only; omega⟩
              · dsimp only; rw [hst1, hstep, if_pos (show (S.tryR m x l).1 = true from hc5)]; exact hvl
              · dsimp only; rw [hst1, hstep, if_pos (show (S.tryR m x l).1 = true from hc5)]; exact fun e => absurd e hlne
              · dsimp only; rw [hst1, hstep, if_pos (show (S.tryR m x l).1 = true from hc5)]; exact hvo
            · refine cw_skip ?_
              refine cw_regF ?_
              refine s_mv rfl rfl ?_
              refine p_add rfl rfl rfl (n := (((k + 1 : Nat) : Int) + 1)) ⟨by omega, by rw [InK.i64]; omega⟩ ?_
              refine s_as rfl rfl ?_
              refine Reg.nil ⟨rfl, (k + 1, vb, vv), ⟨hlt, hI5, ?_, ?_, ?_⟩, Sub.cons rfl (Sub.cons rfl (Sub.cons rfl (Sub.cons rfl (Sub.cons rfl (Sub.cons rfl (Sub.nil _)))))), by dsimp only; omega⟩
              · dsimp only; rw [hst1, hstep, if_neg (fun e => by rw [show (S.tryR m x l).1 = false from hc5] at e; cases e)]; exact hvb
              · dsimp only; rw [hst1, hstep, if_neg (fun e => by rw [show (S.tryR m x l).1 = false from hc5] at e; cases e)]; exact hnil
              · dsimp only; rw [hst1, hstep, if_neg (fun e => by rw [show (S.tryR m x l).1 = false from hc5] at e; cases e)]; exact hvv
    · have hkn : k + 1 = 2 ^ x.length := by have := of_decide_eq_false hc3; omega
      have hall := S.stQ_all m x hx5 k hkn
      refine cw_exit ?_
      refine exB_same ?_
      refine cw_seq ?_
      refine cw_seq ?_
      refine cw_regF ?_
      refine s_mv rfl rfl ?_
      unfold S.reasonsS at hr
      rw [if_pos h0] at hr
      cases hF : (S.setsS x.length).find? (fun l => (S.tryR m x l).1) with
      | none =>
        rw [hF] at hr hall
        have hb0 := hnil (by rw [hall]; rfl)
        subst hb0
        cases hr
        refine s_eqNil rfl rfl Tryz.underlying26 rfl ?_
        refine Reg.nil ?_
        refine cw_condT rfl ?_
        refine cw_seq ?_
        refine cw_regF ?_
        refine s_as rfl rfl ?_
        refine s_as rfl rfl ?_
        refine s_as rfl rfl ?_
        refine Reg.nil ?_
        refine cw_ret ?_
        refine fin_any Tryz.results7 (AllRs.cons (RsOk.tmp rfl) (AllRs.cons (RsOk.tmp rfl) (AllRs.cons (RsOk.tmp rfl) (AllRs.nil)))) rfl ?_
        exact ⟨_, _, rfl, RdS.nil _ _ _, RdS.nil _ _ _, (by decide), hIW.kp⟩
      | some l =>
        rw [hF] at hr hall
        have hne : l ≠ [] := (S.setsS_mem (List.mem_of_find?_eq_some hF)).2.2
        cases hr
        rw [hall] at hvb hvv
        have hvb : RdS (intE .i64) (mm [rowR 25 b2 [.int .i64 m.traits, v_m_1, v_m_2, .int .i64 m.need]] M) W vb r0 := hvb
        have hvv : RdS (intE .i64) (mm [rowR 25 b2 [.int .i64 m.traits, v_m_1, v_m_2, .int .i64 m.need]] M) W vv (S.tryR m x r0).2 := hvv
        refine s_eqFull hvb hne rfl rfl Tryz.underlying26 rfl ?_
        refine Reg.nil ?_
        refine cw_condF rfl ?_
        refine cw_skip ?_
        refine cw_seq ?_
        refine cw_regF ?_
        refine s_mv rfl rfl ?_
        refine s_mv rfl rfl ?_
        refine s_as rfl rfl ?_
        refine s_as rfl rfl ?_
        refine s_as rfl rfl ?_
        refine Reg.nil ?_
        refine cw_ret ?_
        refine fin_any Tryz.results7 (AllRs.cons (RsOk.tmp rfl) (AllRs.cons (RsOk.tmp rfl) (AllRs.cons (RsOk.tmp rfl) (AllRs.nil)))) rfl ?_
        exact ⟨_, _, rfl, hvb.adv (Adv.drop fun b hb => mem_mm.2 (.inr hb)), hvv.adv (Adv.drop fun b hb => mem_mm.2 (.inr hb)), (by decide), hIW.kp⟩
end Go.Proofs.YtecmlmngcnionaaGreat
set_option maxRecDepth 20000
namespace Go.Proofs.YtecmlmngcnionaaGreat
open Go Go.Sx Go.RowKit
noncomputable def P.law06_ScoreReasons (m : Model) (x : (List Int)) : Option Bool :=
 Option.bind (Option.bind (P.ref06_Great (Model.mk m.traits m.cards m.trees m.need)) fun z7 => cond z7 (some true) (some (decide (10 < (x.length : Int))))) fun x13 => cond x13 (some true) (Option.bind (P.ref06_Twin (Model.mk m.traits m.cards m.trees m.need)) fun z15 => Option.bind (appo 8 ([] : List Int) x) fun l30 => Option.bind (P.score_Reasons (Model.mk z15.traits z15.cards z15.trees z15.need) l30) fun (z46, z47, z48) => Option.bind (P.ref06_Reasons (Model.mk m.traits m.cards m.trees m.need) x) fun (z58, z59, z60) => Option.bind (Option.bind (P.ref01_SameInts z46 z58) fun z70 => cond z70 (Option.bind (P.ref01_SameInts z47 z59) fun z76 => cond z76 (cond (decide (z48 = z60)) (Option.bind (P.ref06_Same (Model.mk z15.traits z15.cards z15.trees z15.need) (Model.mk m.traits m.cards m.trees m.need)) fun z83 => cond z83 (Option.bind (P.ref01_SameInts l30 x) fun z89 => some z89) (some false)) (some false)) (some false)) (some false)) fun x94 => some x94)
theorem C_law06_ScoreReasons {M : List Nat} {w : World} (hM : MLt M w) {m : Model} {v_m_1 : Value} {v_m_2 : Value} (f_m_0 : InK .i64 m.traits) (f_m_1 : RdS CardE M w v_m_1 m.cards) (f_m_2 : RdS TreeE M w v_m_2 m.trees) (f_m_3 : InK .i64 m.need) {x : (List Int)} {v_x_0 : Value} (f_x_0 : RdS (intE .i64) M w v_x_0 x) {r0 : Bool} (h : P.law06_ScoreReasons m x = some r0) :
  Calls Tryz.prog 3 (List.toArray [Value.agg (List.toArray [Value.int .i64 m.traits, v_m_1, v_m_2, Value.int .i64 m.need]), v_x_0]) w fun e w' => e = .returned (Value.bool r0) ∧ Ext w w' := by
 have hI := Hp.start (Mu := []) hM
 refine calls_cw Tryz.func3 rfl Tryz.ntmps3 rfl ?_
 refine cw_seq (cw_regF ?_)
 refine y_box hI rfl rfl rfl ?_
 intro b1 w2 hI3 x4
 have hC6 := hI3.freezeRow 0 rfl
 have hI5 := hI3.erase 0
 refine s_as rfl rfl ?_
 refine Reg.nil ?_
 refine cw_seq ?_
 obtain ⟨j7, h8, h⟩ := bnd h
 refine cw_sub (L := [(1, _), (2, _)]) (Sub.cons rfl (Sub.cons rfl (Sub.nil _))) ?_
 refine cw_seqD 0 (ι := Bool) (fun x9 => [(19, Value.bool x9)]) (fun x9 => fun w10 => Hp w [] M [] w10 ∧ Adv (mm [] M) (mm [] M) w2 w10 ∧ x9 = j7) ?_ ?_
 ·skip
  refine cw_regF ?_
  refine s_lda rfl hC6.cells Tryz.isAgg25 rfl Tryz.sizeOf25 rfl ?_
  obtain ⟨z13, hz14, h8⟩ := bnd h8
  refine s_call rfl Tryz.call4 rfl ?_
  refine (C_ref06_Great hI5.mlt f_m_0 (f_m_1.adv hI5.adv) (f_m_2.adv hI5.adv) f_m_3 hz14).mono ?_
  rintro _ w15 ⟨rfl, e16⟩
  refine ⟨_, rfl, ?_⟩
  have hI17 := hI5.ext e16
  refine s_mv rfl rfl ?_
  refine Reg.gsplit (t := 15) rfl (fun hg18 => ?_) (fun hg18 => ?_)
  ·replace h8 := cdT hg18 h8
   refine Reg.pass rfl rfl rfl rfl ?_
   refine Reg.pass rfl rfl rfl rfl ?_
   refine Reg.pass rfl rfl rfl rfl ?_
   refine s_pkT rfl rfl rfl ?_
   refine Reg.nil ?_
   obtain rfl := Option.some.inj h8
   refine ⟨rfl, true, ⟨hI17, (Adv.of_ext e16), rfl⟩, Sub.cons rfl (Sub.cons rfl (Sub.cons rfl (Sub.nil _)))⟩
  ·replace h8 := cdF hg18 h8
   refine Reg.take rfl rfl ?_
   refine s_mv rfl rfl ?_
   refine Reg.take rfl rfl ?_
   refine s_len rfl (f_x_0.adv hI17.adv) Tryz.underlying26 rfl ?_
   refine Reg.take rfl rfl ?_
   refine s_gtr rfl rfl rfl ?_
   refine s_pkF rfl rfl rfl ?_
   refine Reg.nil ?_
   obtain rfl := Option.some.inj h8
   refine ⟨rfl, decide (10 < (x.length : Int)), ⟨hI17, (Adv.of_ext e16), rfl⟩, Sub.cons rfl (Sub.cons rfl (Sub.cons rfl (Sub.nil _)))⟩
 ·skip
  rintro x9 w10 ⟨hI11, hA12, rfl⟩
  refine cw_cond rfl (fun hc19 => ?_) (fun hc19 => ?_)
  ·replace h := cdT hc19 h
   refine cw_seq (cw_regF ?_)
   refine s_as rfl rfl ?_
   refine Reg.nil ?_
   refine cw_ret ?_
   obtain rfl := Option.some.inj h
   refine fin1 Tryz.results3 rfl ?_
   exact ⟨rfl, hI11.kp⟩
  ·replace h := cdF hc19 h
   refine cw_skip (cw_seq (cw_regF ?_))
   refine s_lda rfl (hC6.adv hA12).cells Tryz.isAgg25 rfl Tryz.sizeOf25 rfl ?_
   obtain ⟨z20, hz21, h⟩ := bnd h
   refine s_call rfl Tryz.call5 rfl ?_
   refine (C_ref06_Twin hI11.mlt f_m_0 (f_m_1.adv hI11.adv) (f_m_2.adv hI11.adv) f_m_3 hz21).mono ?_
   rintro _ w22 ⟨v25, v27, rfl, r24, hf26, hf28, r29, e23⟩
   refine ⟨_, rfl, ?_⟩
   have hI30 := hI11.ext e23
   refine y_bs (E := (intE .i64)) (xs := []) sl26 hI30 rfl rfl Cls.nil Chs.nil rfl rfl ?_
   intro v31 w32 hI33 x34
   refine s_mv rfl rfl ?_
   obtain ⟨l35, hl35, h⟩ := bnd h
   obtain ⟨hbl35, el35⟩ := appo_out hl35
   refine y_app 0 sl26 hI33 rfl rfl rfl (f_x_0.adv hI33.adv) hbl35 rfl ?_
   rw [← el35]
   intro v36 w37 hI38 x39
   refine y_al hI38 Tryz.zeroValue25 rfl rfl ?_
   intro b40 w41 hI42 x43
   refine y_st 0 hI42 rfl rfl rfl rfl Tryz.sizeOf25 rfl rfl (one1 rfl (one1 (RdS.oneC hf26) (one1 (RdS.oneC hf28) (one1 rfl one0)))) ?_
   intro w44 hI45 x46
   have hC48 := hI45.freezeRow 0 rfl
   have hI47 := hI45.erase 0
   refine s_as rfl rfl ?_
   refine Reg.nil ?_
   refine cw_seq (cw_regF ?_)
   refine s_lda rfl hC48.cells Tryz.isAgg25 rfl Tryz.sizeOf25 rfl ?_
   refine s_mv rfl rfl ?_
   have hf49 := hI47.freeze 0 rfl
   have hI50 := hI47.erase 0
   obtain ⟨⟨z51, z52, z53⟩, hz54, h⟩ := bnd h
   refine s_call rfl Tryz.call6 rfl ?_
   refine (C_score_Reasons hI50.mlt r24 (hf26.adv (x34.trans (x39.trans (x43.trans (x46.trans ((Hp.eraseA (σ := [rowR 25 b40 [Value.int .i64 z20.traits, v25, v27, Value.int .i64 z20.need], ownR [] (intE .i64) 3 v36 l35]) 0).trans (Hp.eraseA (σ := [ownR [] (intE .i64) 3 v36 l35]) 0))))))) (hf28.adv (x34.trans (x39.trans (x43.trans (x46.trans ((Hp.eraseA (σ := [rowR 25 b40 [Value.int .i64 z20.traits, v25, v27, Value.int .i64 z20.need], ownR [] (intE .i64) 3 v36 l35]) 0).trans (Hp.eraseA (σ := [ownR [] (intE .i64) 3 v36 l35]) 0))))))) r29 hf49 hz54).mono ?_
   rintro _ w55 ⟨v57, v59, rfl, hf58, hf60, r61, e56⟩
   refine ⟨_, rfl, ?_⟩
   have hI62 := hI50.ext e56
   refine s_mv rfl rfl ?_
   refine s_xt rfl rfl rfl ?_
   refine s_xt rfl rfl rfl ?_
   refine s_xt rfl rfl rfl ?_
   refine s_as rfl rfl ?_
   refine s_as rfl rfl ?_
   refine s_as rfl rfl ?_
   refine Reg.nil ?_
   refine cw_seq (cw_regF ?_)
   refine s_lda rfl (hC6.adv (hA12.trans ((Adv.of_ext e23).trans (x34.trans (x39.trans (x43.trans (x46.trans ((Hp.eraseA (σ := [rowR 25 b40 [Value.int .i64 z20.traits, v25, v27, Value.int .i64 z20.need], ownR [] (intE .i64) 3 v36 l35]) 0).trans ((Hp.eraseA (σ := [ownR [] (intE .i64) 3 v36 l35]) 0).trans (Adv.of_ext e56)))))))))).cells Tryz.isAgg25 rfl Tryz.sizeOf25 rfl ?_
   refine s_mv rfl rfl ?_
   obtain ⟨⟨z63, z64, z65⟩, hz66, h⟩ := bnd h
   refine s_call rfl Tryz.call7 rfl ?_
   refine (C_ref06_Reasons hI62.mlt f_m_0 (f_m_1.adv hI62.adv) (f_m_2.adv hI62.adv) f_m_3 (f_x_0.adv hI62.adv) hz66).mono ?_
   rintro _ w67 ⟨v69, v71, rfl, hf70, hf72, r73, e68⟩
   refine ⟨_, rfl, ?_⟩
   have hI74 := hI62.ext e68
   refine s_mv rfl rfl ?_
   refine s_xt rfl rfl rfl ?_
   refine s_xt rfl rfl rfl ?_
   refine s_xt rfl rfl rfl ?_
   refine s_as rfl rfl ?_
   refine s_as rfl rfl ?_
   refine s_as rfl rfl ?_
   refine Reg.nil ?_
   obtain ⟨j75, h76, h⟩ := bnd h
   refine cw_sub (L := [(1, _), (2, _), (5, _), (6, _), (7, _), (8, _), (9, _), (10, _), (11, _), (12, _)]) (Sub.cons rfl (Sub.cons rfl (Sub.cons rfl (Sub.cons rfl (Sub.cons rfl (Sub.cons rfl (Sub.cons rfl (Sub.cons rfl (Sub.cons rfl (Sub.cons rfl (Sub.nil _))))))))))) ?_
   refine cw_seqD 10 (ι := Bool) (fun x77 => [(4, Value.bool x77)]) (fun x77 => fun w78 => Hp w [] M [] w78 ∧ Adv (mm [] M) (mm [] M) w67 w78 ∧ x77 = j75) ?_ ?_
   ·skip
    refine cw_regF ?_
    refine s_mv rfl rfl ?_
    refine s_mv rfl rfl ?_
    obtain ⟨z81, hz82, h76⟩ := bnd h76
    refine s_call rfl Tryz.call8 rfl ?_
    refine (C_ref01_SameInts hI74.mlt (hf58.adv (Adv.of_ext e68)) hf70 hz82).mono ?_
    rintro _ w83 ⟨rfl, e84⟩
    refine ⟨_, rfl, ?_⟩
    have hI85 := hI74.ext e84
    refine s_mv rfl rfl ?_
    refine Reg.gsplit (t := 42) rfl (fun hg86 => ?_) (fun hg86 => ?_)
    ·replace h76 := cdT hg86 h76
     refine Reg.take rfl rfl ?_
     refine s_mv rfl rfl ?_
     refine Reg.take rfl rfl ?_
     refine s_mv rfl rfl ?_
     refine Reg.take rfl rfl ?_
     obtain ⟨z87, hz88, h76⟩ := bnd h76
     refine s_call rfl Tryz.call8 rfl ?_
     refine (C_ref01_SameInts hI85.mlt (hf60.adv ((Adv.of_ext e68).trans (Adv.of_ext e84))) (hf72.adv (Adv.of_ext e84)) hz88).mono ?_
     rintro _ w89 ⟨rfl, e90⟩
     refine ⟨_, rfl, ?_⟩
     have hI91 := hI85.ext e90
     refine s_pkT rfl rfl rfl ?_
     refine s_mv rfl rfl ?_
     refine Reg.gsplit (t := 47) rfl (fun hg92 => ?_) (fun hg92 => ?_)
     ·replace h76 := cdT hg92 h76
      refine Reg.take rfl rfl ?_
      refine s_mv rfl rfl ?_
      refine Reg.take rfl rfl ?_
      refine s_mv rfl rfl ?_
      refine Reg.take rfl rfl ?_
      refine s_eql rfl rfl rfl ?_
      refine s_pkT rfl rfl rfl ?_
      refine s_mv rfl rfl ?_
      refine Reg.gsplit (t := 52) rfl (fun hg93 => ?_) (fun hg93 => ?_)
      ·replace h76 := cdT hg93 h76
       refine Reg.take rfl rfl ?_
       refine s_lda rfl (hC48.adv ((Hp.eraseA (σ := [ownR [] (intE .i64) 3 v36 l35]) 0).trans ((Adv.of_ext e56).trans ((Adv.of_ext e68).trans ((Adv.of_ext e84).trans (Adv.of_ext e90)))))).cells Tryz.isAgg25 rfl Tryz.sizeOf25 rfl ?_
       refine Reg.take rfl rfl ?_
       refine s_lda rfl (hC6.adv (hA12.trans ((Adv.of_ext e23).trans (x34.trans (x39.trans (x43.trans (x46.trans ((Hp.eraseA (σ := [rowR 25 b40 [Value.int .i64 z20.traits, v25, v27, Value.int .i64 z20.need], ownR [] (intE .i64) 3 v36 l35]) 0).trans ((Hp.eraseA (σ := [ownR [] (intE .i64) 3 v36 l35]) 0).trans ((Adv.of_ext e56).trans ((Adv.of_ext e68).trans ((Adv.of_ext e84).trans (Adv.of_ext e90))))))))))))).cells Tryz.isAgg25 rfl Tryz.sizeOf25 rfl ?_
       refine Reg.take rfl rfl ?_
       obtain ⟨z94, hz95, h76⟩ := bnd h76
       refine s_call rfl Tryz.call9 rfl ?_
       refine (C_ref06_Same hI91.mlt r24 (hf26.adv (x34.trans (x39.trans (x43.trans (x46.trans ((Hp.eraseA (σ := [rowR 25 b40 [Value.int .i64 z20.traits, v25, v27, Value.int .i64 z20.need], ownR [] (intE .i64) 3 v36 l35]) 0).trans ((Hp.eraseA (σ := [ownR [] (intE .i64) 3 v36 l35]) 0).trans ((Adv.of_ext e56).trans ((Adv.of_ext e68).trans ((Adv.of_ext e84).trans (Adv.of_ext e90))))))))))) (hf28.adv (x34.trans (x39.trans (x43.trans (x46.trans ((Hp.eraseA (σ := [rowR 25 b40 [Value.int .i64 z20.traits, v25, v27, Value.int .i64 z20.need], ownR [] (intE .i64) 3 v36 l35]) 0).trans ((Hp.eraseA (σ := [ownR [] (intE .i64) 3 v36 l35]) 0).trans ((Adv.of_ext e56).trans ((Adv.of_ext e68).trans ((Adv.of_ext e84).trans (Adv.of_ext e90))))))))))) r29 f_m_0 (f_m_1.adv hI91.adv) (f_m_2.adv hI91.adv) f_m_3 hz95).mono ?_
       rintro _ w96 ⟨rfl, e97⟩
       refine ⟨_, rfl, ?_⟩
       have hI98 := hI91.ext e97
       refine s_pkT rfl rfl rfl ?_
       refine s_mv rfl rfl ?_
       refine Reg.gsplit (t := 57) rfl (fun hg99 => ?_) (fun hg99 => ?_)
       ·replace h76 := cdT hg99 h76
        refine Reg.take rfl rfl ?_
        refine s_mv rfl rfl ?_
        refine Reg.take rfl rfl ?_
        refine s_mv rfl rfl ?_
        refine Reg.take rfl rfl ?_
        obtain ⟨z100, hz101, h76⟩ := bnd h76
        refine s_call rfl Tryz.call8 rfl ?_
        refine (C_ref01_SameInts hI98.mlt (hf49.adv ((Adv.of_ext e56).trans ((Adv.of_ext e68).trans ((Adv.of_ext e84).trans ((Adv.of_ext e90).trans (Adv.of_ext e97)))))) (f_x_0.adv hI98.adv) hz101).mono ?_
        rintro _ w102 ⟨rfl, e103⟩
        refine ⟨_, rfl, ?_⟩
        have hI104 := hI98.ext e103
        refine s_pkT rfl rfl rfl ?_
        refine s_as rfl rfl ?_
        refine Reg.nil ?_
        obtain rfl := Option.some.inj h76
        refine ⟨rfl, z100, ⟨hI104, ((Adv.of_ext e84).trans ((Adv.of_ext e90).trans ((Adv.of_ext e97).trans (Adv.of_ext e103)))), rfl⟩, Sub.cons rfl (Sub.nil _)⟩
       ·replace h76 := cdF hg99 h76
        refine Reg.pass rfl rfl rfl rfl ?_
        refine Reg.pass rfl rfl rfl rfl ?_
        refine Reg.pass rfl rfl rfl rfl ?_
        refine s_pkF rfl rfl rfl ?_
        refine s_as rfl rfl ?_
        refine Reg.nil ?_
        obtain rfl := Option.some.inj h76
        refine ⟨rfl, false, ⟨hI98, ((Adv.of_ext e84).trans ((Adv.of_ext e90).trans (Adv.of_ext e97))), rfl⟩, Sub.cons rfl (Sub.nil _)⟩
      ·replace h76 := cdF hg93 h76
       refine Reg.pass rfl rfl rfl rfl ?_
       refine Reg.pass rfl rfl rfl rfl ?_
       refine Reg.pass rfl rfl rfl rfl ?_
       refine s_pkF rfl rfl rfl ?_
       refine s_mv rfl rfl ?_
       refine Reg.pass rfl rfl rfl rfl ?_
       refine Reg.pass rfl rfl rfl rfl ?_
       refine Reg.pass rfl rfl rfl rfl ?_
       refine s_pkF rfl rfl rfl ?_
       refine s_as rfl rfl ?_
       refine Reg.nil ?_
       obtain rfl := Option.some.inj h76
       refine ⟨rfl, false, ⟨hI91, ((Adv.of_ext e84).trans (Adv.of_ext e90)), rfl⟩, Sub.cons rfl (Sub.nil _)⟩
     ·replace h76 := cdF hg92 h76
      refine Reg.pass rfl rfl rfl rfl ?_
      refine Reg.pass rfl rfl rfl rfl ?_
      refine Reg.pass rfl rfl rfl rfl ?_
      refine s_pkF rfl rfl rfl ?_
      refine s_mv rfl rfl ?_
      refine Reg.pass rfl rfl rfl rfl ?_
      refine Reg.pass rfl rfl rfl rfl ?_
      refine Reg.pass rfl rfl rfl rfl ?_
      refine s_pkF rfl rfl rfl ?_
      refine s_mv rfl rfl ?_
      refine Reg.pass rfl rfl rfl rfl ?_
      refine Reg.pass rfl rfl rfl rfl ?_
      refine Reg.pass rfl rfl rfl rfl ?_
      refine s_pkF rfl rfl rfl ?_
      refine s_as rfl rfl ?_
      refine Reg.nil ?_
      obtain rfl := Option.some.inj h76
      refine ⟨rfl, false, ⟨hI91, ((Adv.of_ext e84).trans (Adv.of_ext e90)), rfl⟩, Sub.cons rfl (Sub.nil _)⟩
    ·replace h76 := cdF hg86 h76
     refine Reg.pass rfl rfl rfl rfl ?_
     refine Reg.pass rfl rfl rfl rfl ?_
     refine Reg.pass rfl rfl rfl rfl ?_
     refine s_pkF rfl rfl rfl ?_
     refine s_mv rfl rfl ?_
     refine Reg.pass rfl rfl rfl rfl ?_
     refine Reg.pass rfl rfl rfl rfl ?_
     refine Reg.pass rfl rfl rfl rfl ?_
     refine s_pkF rfl rfl rfl ?_
     refine s_mv rfl rfl ?_
     refine Reg.pass rfl rfl rfl rfl ?_
     refine Reg.pass rfl rfl rfl rfl ?_
     refine Reg.pass rfl rfl rfl rfl ?_
     refine s_pkF rfl rfl rfl ?_
     refine s_mv rfl rfl ?_
     refine Reg.pass rfl rfl rfl rfl ?_
     refine Reg.pass rfl rfl rfl rfl ?_
     refine Reg.pass rfl rfl rfl rfl ?_
     refine s_pkF rfl rfl rfl ?_
     refine s_as rfl rfl ?_
     refine Reg.nil ?_
     obtain rfl := Option.some.inj h76
     refine ⟨rfl, false, ⟨hI85, (Adv.of_ext e84), rfl⟩, Sub.cons rfl (Sub.nil _)⟩
   ·skip
    rintro x77 w78 ⟨hI79, hA80, rfl⟩
    refine cw_ret ?_
    obtain rfl := Option.some.inj h
    refine fin1 Tryz.results3 rfl ?_
    exact ⟨rfl, hI79.kp⟩
end Go.Proofs.YtecmlmngcnionaaGreat
namespace Go.Proofs.YtecmlmngcnionaaGreat
open Go Go.Sx
namespace S
theorem p_ScoreReasons (m : Model) (x : List Int) : P.law06_ScoreReasons m x = some true := by
  apply Ret.yes
  unfold P.law06_ScoreReasons
  rw [show (Model.mk m.traits m.cards m.trees m.need) = m from rfl]
  refine Ret.bind (Ret.bind (Ret.val (p_great m) (Ret.cond (fun h => Ret.ok (Ret.condT rfl (Ret.ok rfl))) fun hg => Ret.ok (Ret.cond (fun h => Ret.ok rfl) fun hx => ?_))))
  have hs := small_of hg
  have hx : x.length ≤ 10 := by have := of_decide_eq_false hx; omega
  have h1 : P.ref06_Reasons m x = some (reasonsS m x) := by unfold P.ref06_Reasons; rw [if_pos ⟨hs, hx⟩]
  have he5 : err m x = 0 → modelOk m = true ∧ valuesOk m x = true ∧ x.length ≤ 5 := fun he => by
    unfold err at he
    split at he
    · rename_i hm
      split at he
      · rename_i hv
        have h6 := (valuesOk_iff.1 hv).1
        have h7 := (modelOk_iff.1 hm).2.1
        exact ⟨hm, hv, by omega⟩
      · cases he
    · cases he
  have h2 : P.score_Reasons m x = some (reasonsS m x) := by unfold P.score_Reasons; rw [if_pos ⟨hs, hx, fun he => p_sets _ (he5 he).2.2⟩]
  have hrl : (reasonsS m x).1.length ≤ 1000 ∧ (reasonsS m x).2.1.length ≤ 1000 := by
    unfold reasonsS
    split
    · rename_i he
      obtain ⟨hok, hv, h5⟩ := he5 he
      cases hF : (setsS x.length).find? fun l => (tryR m x l).1 with
      | none => simp
      | some l =>
        have h3 := (setsS_mem (List.mem_of_find?_eq_some hF)).2.1
        obtain ⟨f, rfl⟩ := sets_form (List.mem_of_find?_eq_some hF)
        have hp : (tryR m x (lsOf x.length f)).1 = true := List.find?_some (p := fun l => (tryR m x l).1) hF
        have h4 := (tryR_some hok (valuesOk_iff.1 hv).1 hp).1
        have h5 := List.length_filter_le f (List.range x.length)
        rw [List.length_range] at h5
        unfold tsOf at h4
        simp only; omega
    · simp
  obtain ⟨l1, l2⟩ := hrl
  refine Ret.bind (Ret.val (p_Twin m hs) (Ret.bind (Ret.appo (by simp; omega) (by simp; omega) ?_)))
  rw [List.nil_append]
  refine Ret.bind (Ret.val h2 ?_)
  generalize reasonsS m x = R at *
  obtain ⟨a, b, e⟩ := R
  dsimp only at l1 l2 ⊢
  refine Ret.bind (Ret.val h1 ?_)
  dsimp only
  refine Ret.bind (Ret.bind (Ret.val (p_same a a (by omega)) (Ret.condT (decide_eq_true rfl) (Ret.bind (Ret.val (p_same b b (by omega)) (Ret.condT (decide_eq_true rfl) (Ret.condT (decide_eq_true rfl) ?_)))))))
  refine Ret.bind (Ret.val (p_Same m hs) (Ret.condT rfl (Ret.bind (Ret.val (p_same x x (by omega)) (Ret.ok (Ret.ok (decide_eq_true rfl)))))))
end S
end Go.Proofs.YtecmlmngcnionaaGreat
