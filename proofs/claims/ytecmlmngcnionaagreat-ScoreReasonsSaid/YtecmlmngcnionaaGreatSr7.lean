/-
  Part 7 of the texts that the statement's proof stands on: what memory holds, how code is walked, what the functions reckon. In the order in which they build.
-/
import Derived.Laws.MakeOwn
import Derived.Sort.Row
import Derived.Sort.Grow
import Derived.Maps.Own
import Derived.Shelf.SlGeneric
import Derived.Shelf.SlLaysM
import Derived.Ground.SlgmProg
import Derived.Test.YtecmlmngcnionaaGreatProg
import Derived.Shelf.SortM.Plain
import Derived.Shelf.SortM.SortNone
import Derived.Shelf.SlLaysF
import Derived.Ground.SlsfProg
import Derived.Test.YtecmlmngcnionaaGreatSr6
set_option linter.unusedVariables false
namespace Go.Sx
open Go Go.RowKit
/-- What is made; none where the number is not one that a machine could hold. -/
def mko {α : Type} (b : Nat) (z : α) (n : Int) : Option (List α) := if 0 ≤ n ∧ (b : Int) * n ≤ 140737488355328 ∧ n ≤ 140737488355328 then some (List.replicate n.toNat z) else none
theorem mko_out {α : Type} {b : Nat} {z : α} {n : Int} {l : List α} (h : mko b z n = some l) : (0 ≤ n ∧ (b : Int) * n ≤ 140737488355328 ∧ n ≤ 140737488355328) ∧ l = List.replicate n.toNat z := by
  unfold mko at h
  split at h
  · cases h; exact ⟨by assumption, rfl⟩
  · cases h
theorem mko_ok {α : Type} {b : Nat} {z : α} {n : Nat} (h : b * n ≤ 140737488355328) (h2 : n ≤ 140737488355328) : mko b z (n : Int) = some (List.replicate n z) := by
  unfold mko
  have h3 : (b : Int) * (n : Int) ≤ 140737488355328 := by rw [← Int.natCast_mul]; omega
  rw [if_pos ⟨by omega, h3, by omega⟩, Int.toNat_natCast]
theorem Chunks.same {α : Type} {E : Enc α} {M : List Nat} {w : World} {v : Value} {z : α} (h : E.R M w [v] z) : ∀ n, Chunks E M w (List.replicate n v) (List.replicate n z)
  | 0 => rfl
  | n + 1 => ⟨[v], List.replicate n v, rfl, h, Chunks.same h n⟩
section
variable {P : Program} {N : Nat} {ops : Array Oper} {q : Md} {rest : List Oper} {ds : List Deferred} {L : Env} {w w0 : World} {A B : Out} {X : Nat → Out} {Z : List PanicEntry → Out} {d : Nat} {ty : TypeId} {pos : String} {af : Array Edge} {Mu M : List Nat} {σ : List Res}
theorem y_mk {α : Type} {E : Enc α} {t e bytes : Nat} (T : SlT P t e E.n bytes) {z : Value} {z0 : α} (hz : (P.info? e).bind (·.zero) = some z) (hone : z.cells = #[z]) (hR : ∀ M w, E.R M w [z] z0) {x y : Operand} {k k' : IntKind} {m : Int} {xs : List α} (hI : Hp w0 Mu M σ w)
    (hx : ev L x = some (.int k m)) (hy : ev L y = some (.int k' m)) (hm : mko bytes z0 m = some xs) (hN : Nat.blt d N = true)
    (h : ∀ v' w', Hp w0 Mu M (ownR [] E e v' xs :: σ) w' → Adv (mm σ M) (mm (ownR [] E e v' xs :: σ) M) w w' → Reg P N ops .seq rest ds ((d, v') :: L) w' A B X Z) :
    Reg P N ops .seq (⟨some d, .makeSlice t x y, ty, pos, af, none⟩ :: rest) ds L w A B X Z := by
  obtain ⟨⟨h0, hb, hmx⟩, rfl⟩ := mko_out hm
  obtain ⟨i, z', hi0, hz', hs, hby, hzs⟩ := T.info
  have hzz : z' = z := by
    have : (P.info? e).bind (·.zero) = some z' := by rw [hi0]; exact hz'
    rw [hz] at this; exact (Option.some.inj this).symm
  subst hzz
  have hn1 : E.n = 1 := by rw [← hzs, hone]; rfl
  have hcells : madeCells z'.cells (m.toNat * i.size) = (List.replicate m.toNat z').toArray := by
    rw [hs, hn1, hone, Nat.mul_one]
    apply Array.ext
    · simp [madeCells]
    · intro j h1 h2
      simp [madeCells, Nat.mod_one]
  obtain ⟨n, rfl⟩ : ∃ n : Nat, m = n := ⟨m.toNat, by omega⟩
  rw [Int.toNat_natCast] at hcells h
  let w1 := w.alloc (.cells (List.replicate n z').toArray e)
  have hx' : Ext w w1 := Kp.alloc _ _ _
  have hown : Own E e 0 (mm σ M) w1 (.slice (some ⟨w.heap.size, 0, none⟩) n n) (List.replicate n z0) := by
    cases n with
    | zero => exact .inl ⟨_, rfl, rfl⟩
    | succ j =>
      refine .inr ⟨w.heap.size, j, (List.replicate (j + 1) z').toArray, by simp, Nat.zero_le _, heap_alloc_new w _, by simp, by simp only [maxLen]; omega, by simp [hn1], ?_⟩
      rw [hn1, Nat.mul_one, List.length_replicate]
      rw [List.take_of_length_le (by simp)]
      exact Chunks.same (hR _ _) _
  have hnew : ∀ b ∈ ob (.slice (some ⟨w.heap.size, 0, none⟩) n n), w.heap.size ≤ b := fun b hb => by
    cases n with
    | zero => cases hb
    | succ m =>
      have : b = w.heap.size := by simpa [ob] using hb
      omega
  have hn' : ∀ b ∈ (ownR [] E e (.slice (some ⟨w.heap.size, 0, none⟩) n n) (List.replicate n z0)).fp, w.heap.size ≤ b ∧ b < w1.heap.size := fun b hb => ⟨hnew b hb, (hown.ge b hb).2⟩
  refine Reg.eff (.slice (some ⟨w.heap.size, 0, none⟩) n n) w1 rfl rfl hN (fun a ha => ?_) (h _ _ (hI.add hx' hn' rfl (hown.mon fun b hb => (List.mem_append.1 hb).elim .inl .inr)) (hI.addA hx' hn'))
  have hr := run_make (P := P) w t e i z' T.und hi0 hz' k k' (n : Int) (n : Int) (by omega) (Int.le_refl _) (by rw [hby]; omega) (by omega)
  rw [Int.toNat_natCast, hcells] at hr
  simp [execOp, ha.eval hx, ha.eval hy, hr, w1]
end
end Go.Sx
set_option maxRecDepth 20000
namespace Go.Proofs.YtecmlmngcnionaaGreat
open Go Go.Sx Go.RowKit
noncomputable def P.ref06_next (at_ : (List Int)) (lists : (List (List Int))) : Option (Bool × (List Int)) :=
 Option.bind (chk .i64 ((at_.length : Int) - 1)) fun n1 => Option.bind (loopM (S := Int × (List Int)) (R := ((List Int)) ⊕ (Bool × (List Int))) (fun (x2, x3) => cond (decide (0 ≤ x2)) (Option.bind (ixo x3 x2) fun y5 => Option.bind (chk .i64 (y5 + 1)) fun n12 => Option.bind (ixo x3 x2) fun y13 => Option.bind (seto x3 x2 n12) fun l20 => Option.bind (ixo l20 x2) fun y24 => Option.bind (ixo lists x2) fun y31 => cond (decide (y24 < (y31.length : Int))) (some (.inr (.inr (true, l20)))) (Option.bind (ixo l20 x2) fun y43 => Option.bind (seto l20 x2 0) fun l50 => Option.bind (chk .i64 (x2 - 1)) fun n54 => some (.inl (n54, l50)))) (some (.inr (.inl x3)))) (n1, at_)) fun j55 => Sum.elim (fun x56 => some (false, x56)) (fun r57 => some r57)  j55
theorem C_ref06_next {M : List Nat} {w : World} {v_at_ : Value} (hM : MLt M w) (hd : ∀ b ∈ ob v_at_, b ∉ M) {at_ : (List Int)} (p_at_ : Own (intE .i64) 3 0 M w v_at_ at_) {lists : (List (List Int))} {v_lists_0 : Value} (f_lists_0 : RdS (sliceE (intE .i64)) (ob v_at_ ++ M) w v_lists_0 lists) {r0 : Bool} {r1 : (List Int)} (h : P.ref06_next at_ lists = some (r0, r1)) :
  Calls Tryz.prog 33 (List.toArray [v_at_, v_lists_0]) w fun e w' => e = .returned (Value.bool r0) ∧ (Own (intE .i64) 3 0 M w' v_at_ r1 ∧ (∀ b ∈ ob v_at_, b ∈ ob v_at_ ∨ w.heap.size ≤ b) ∧ Kp (ob v_at_) w w') := by
 have hI := Hp.startOwn hM hd p_at_
 refine calls_cw Tryz.func33 rfl Tryz.ntmps33 rfl ?_
 refine cw_seq (cw_regF ?_)
 refine s_as rfl rfl ?_
 refine Reg.nil ?_
 refine cw_seq (cw_seq (cw_regF ?_))
 refine s_mv rfl rfl ?_
 refine s_lenO rfl (hI.ownAt 0 rfl) Tryz.underlying26 rfl ?_
 obtain ⟨n1, hn1, h⟩ := bnd h
 replace hn1 := chk_out hn1
 refine p_sub rfl rfl rfl hn1 ?_
 refine s_as rfl rfl ?_
 refine Reg.nil ?_
 obtain ⟨j2, h3, h⟩ := bnd h
 refine cw_sub (L := [(0, _), (1, _), (5, _)]) (Sub.cons rfl (Sub.cons rfl (Sub.cons rfl (Sub.nil _)))) ?_
 refine cw_unitD 3 (ι := (List Int)) (fun x4 => []) (fun x4 => fun w5 => Hp w (ob v_at_) M [ownR (ob v_at_) (intE .i64) 3 v_at_ x4] w5 ∧ Adv (mm [ownR (ob v_at_) (intE .i64) 3 v_at_ at_] M) (mm [ownR (ob v_at_) (intE .i64) 3 v_at_ x4] M) w w5 ∧ (.inl x4) = j2) ?_ ?_
 ·skip
  refine cw_block ?_
  refine cw_sub (L := [(5, _), (0, _), (1, _)]) (Sub.cons rfl (Sub.cons rfl (Sub.cons rfl (Sub.nil _)))) ?_
  refine cw_loopM 1 (ι := Int × (List Int)) _ (fun ⟨x8, x10⟩ => [(5, Value.int .i64 x8)]) (fun ⟨x8, x10⟩ => (x8, x10)) (fun ⟨x8, x10⟩ => fun w11 => Hp w (ob v_at_) M [ownR (ob v_at_) (intE .i64) 3 v_at_ x10] w11 ∧ Adv (mm [ownR (ob v_at_) (intE .i64) 3 v_at_ at_] M) (mm [ownR (ob v_at_) (intE .i64) 3 v_at_ x10] M) w w11 ∧ InK .i64 x8) (n1, at_) h3 ⟨hI, (Adv.refl _ _), hn1.2⟩ (Sub.cons rfl (Sub.cons rfl (Sub.cons rfl (Sub.nil _)))) ?_
  rintro ⟨x8, x10⟩ w11 ⟨hI12, hA13, r9⟩ y14 h15 hR16
  refine cw_seq (cw_seq (cw_regF ?_))
  refine s_mv rfl rfl ?_
  refine s_geq rfl rfl rfl ?_
  refine Reg.nil ?_
  refine cw_cond rfl (fun hc17 => ?_) (fun hc17 => ?_)
  ·replace h15 := cdT hc17 h15
   refine cw_skip ?_
   refine cw_seq ?_
   refine cw_block ?_
   refine cw_seq (cw_regF ?_)
   refine s_mv rfl rfl ?_
   refine s_mv rfl rfl ?_
   obtain ⟨y18, hy18, h15⟩ := bnd h15
   refine y_ia 0 hI12 rfl rfl rfl hy18 Tryz.underlying26 Tryz.sizeOf3 rfl ?_
   intro g19 cs20 hg21 hR22 hC23
   have khR22 := hR22
   obtain ⟨rfl, r24⟩ := hR22
   refine s_ld rfl (hC23.at 0 rfl) Tryz.isAgg3 rfl ?_
   obtain ⟨n25, hn25, h15⟩ := bnd h15
   replace hn25 := chk_out hn25
   refine p_add rfl rfl rfl hn25 ?_
   obtain ⟨y26, hy26, h15⟩ := bnd h15
   refine y_ia 0 hI12 rfl rfl rfl hy26 Tryz.underlying26 Tryz.sizeOf3 rfl ?_
   intro g27 cs28 hg29 hR30 hC31
   have khR30 := hR30
   obtain ⟨rfl, r32⟩ := hR30
   obtain ⟨l33, hl33, h15⟩ := bnd h15
   refine y_sto 0 (E := (intE .i64)) (o := 0) hI12 rfl rfl rfl rfl hg29 hl33 ⟨rfl, r32⟩ hC31 ⟨rfl, hn25.2⟩ rfl Tryz.sizeOf3 rfl (one1 rfl one0) ?_
   intro w34 hI35 x36
   refine Reg.nil ?_
   refine cw_seq ?_
   refine cw_seq ?_
   refine cw_regT fol (by kernel_rfl) ?_
   refine s_mv rfl rfl ?_
   refine s_mv rfl rfl ?_
   obtain ⟨y37, hy37, h15⟩ := bnd h15
   refine y_ia 0 hI35 rfl rfl rfl hy37 Tryz.underlying26 Tryz.sizeOf3 rfl ?_
   intro g38 cs39 hg40 hR41 hC42
   have khR41 := hR41
   obtain ⟨rfl, r43⟩ := hR41
   refine s_ld rfl (hC42.at 0 rfl) Tryz.isAgg3 rfl ?_
   refine s_mv rfl rfl ?_
   refine s_mv rfl rfl ?_
   obtain ⟨y44, hy44, h15⟩ := bnd h15
   refine p_ia rfl rfl (f_lists_0.adv hI35.adv) hy44 Tryz.underlying53 Tryz.sizeOf26 rfl ?_
   intro b45 o46 cs47 hR48 hC49
   obtain ⟨v50, rfl, hf51⟩ := hR48
   refine s_ld rfl (hC49.cells.at 0 rfl) Tryz.isAgg26 rfl ?_
   refine s_len rfl hf51 Tryz.underlying26 rfl ?_
   refine s_lss rfl rfl rfl ?_
   refine Reg.nilq (fun w52 e53 => ?_)
   have hI54 := hI35.ext e53
   refine cw_cond rfl (fun hc55 => ?_) (fun hc55 => ?_)
   ·replace h15 := cdT hc55 h15
    refine cw_seq (cw_regF ?_)
    refine s_as rfl rfl ?_
    refine Reg.nil ?_
    refine cw_ret ?_
    obtain rfl := Option.some.inj h15
    obtain rfl := hR16 _ rfl
    replace h := elimR h
    obtain ⟨rfl, rfl⟩ := inj2 h
    refine fin1 Tryz.results33 rfl ?_
    exact ⟨rfl, (hI54.ownBack 0 rfl)⟩
   ·replace h15 := cdF hc55 h15
    refine cw_skip ?_
    refine cw_regF ?_
    refine s_mv rfl rfl ?_
    refine s_mv rfl rfl ?_
    obtain ⟨y56, hy56, h15⟩ := bnd h15
    refine y_ia 0 hI54 rfl rfl rfl hy56 Tryz.underlying26 Tryz.sizeOf3 rfl ?_
    intro g57 cs58 hg59 hR60 hC61
    have khR60 := hR60
    obtain ⟨rfl, r62⟩ := hR60
    obtain ⟨l63, hl63, h15⟩ := bnd h15
    refine y_sto 0 (E := (intE .i64)) (o := 0) hI54 rfl rfl rfl rfl hg59 hl63 ⟨rfl, r62⟩ hC61 ⟨rfl, (by decide)⟩ rfl Tryz.sizeOf3 rfl (one1 rfl one0) ?_
    intro w64 hI65 x66
    refine Reg.nil ?_
    refine cw_regF ?_
    refine s_mv rfl rfl ?_
    obtain ⟨n67, hn67, h15⟩ := bnd h15
    replace hn67 := chk_out hn67
    refine p_sub rfl rfl rfl hn67 ?_
    refine s_as rfl rfl ?_
    refine Reg.nil ?_
    obtain rfl := Option.some.inj h15
    refine ⟨rfl, (n67, l63), ⟨⟨hI65, hI65.adv, hn67.2⟩, rfl⟩, Sub.cons rfl (Sub.cons rfl (Sub.cons rfl (Sub.nil _)))⟩
  ·replace h15 := cdF hc17 h15
   refine cw_exit ?_
   refine exB_same ?_
   obtain rfl := Option.some.inj h15
   obtain rfl := hR16 _ rfl
   refine ⟨rfl, x10, ⟨hI12, hI12.adv, rfl⟩, Sub.nil _⟩
 ·skip
  rintro x4 w5 ⟨hI6, hA7, rfl⟩
  replace h := elimL h
  refine cw_seq (cw_regF ?_)
  refine s_as rfl rfl ?_
  refine Reg.nil ?_
  refine cw_ret ?_
  obtain ⟨rfl, rfl⟩ := inj2 h
  refine fin1 Tryz.results33 rfl ?_
  exact ⟨rfl, (hI6.ownBack 0 rfl)⟩
noncomputable def P.ref06_other (m : Model) (x : (List Int)) (traits : (List Int)) (yes : Bool) : Option ((List Int) × Bool) :=
 Option.bind (loopM (S := (List (List Int)) × Int) (R := ((List (List Int)))) (fun (x7, x8) => cond (decide (x8 < (traits.length : Int))) (Option.bind (ixo traits x8) fun y10 => Option.bind (P.ref06_steps (Model.mk m.traits m.cards m.trees m.need) y10 (Span.mk 0 1000000)) fun z20 => Option.bind (appo 24 x7 ([z20] : List (List Int))) fun l40 => Option.bind (chk .i64 (x8 + 1)) fun n51 => some (.inl (l40, n51))) (some (.inr x7))) ([], 0)) fun x52 => Option.bind (mko 8 (0 : Int) (traits.length : Int)) fun l53 => Option.bind (loopM (S := (List (List Int)) × Bool × (List Int)) (R := ((List Int)) ⊕ ((List Int) × Bool)) (fun (x58, x59, x60) => Option.bind (cond x59 (some (true, x60)) (Option.bind (P.ref06_next x60 x58) fun (z62, l63) => some (z62, l63))) fun (x69, x70) => cond x69 (Option.bind (appo 8 ([] : List Int) x) fun l76 => Option.bind (loopM (S := (List Int) × Int × (List Int)) (R := ((List Int) × (List Int))) (fun (x81, x82, x83) => cond (decide (x82 < (traits.length : Int))) (Option.bind (ixo traits x82) fun y85 => Option.bind (ixo x58 x82) fun y92 => Option.bind (ixo x70 x82) fun y100 => Option.bind (ixo y92 y100) fun y107 => Option.bind (ixo x83 y85) fun y114 => Option.bind (seto x83 y85 y107) fun l129 => Option.bind (ixo x58 x82) fun y136 => Option.bind (ixo x70 x82) fun y144 => Option.bind (ixo y136 y144) fun y151 => Option.bind (appo 8 x81 ([y151] : List Int)) fun l171 => Option.bind (chk .i64 (x82 + 1)) fun n182 => some (.inl (l171, n182, l129))) (some (.inr (x81, x83)))) ([], 0, l76)) fun (x183, x184) => Option.bind (P.ref06_score (Model.mk m.traits m.cards m.trees m.need) x184) fun z185 => Option.bind (chk .i64 (1000 * m.need)) fun n190 => cond (!(decide (n190 ≤ z185) == yes)) (some (.inr (.inr (x183, true)))) (some (.inl (x58, false, x70)))) (some (.inr (.inl x70)))) (x52, true, l53)) fun j195 => Sum.elim (fun x196 => some ([], false)) (fun r197 => some r197)  j195
theorem C_ref06_other {M : List Nat} {w : World} (hM : MLt M w) {m : Model} {v_m_1 : Value} {v_m_2 : Value} (f_m_0 : InK .i64 m.traits) (f_m_1 : RdS CardE M w v_m_1 m.cards) (f_m_2 : RdS TreeE M w v_m_2 m.trees) (f_m_3 : InK .i64 m.need) {x : (List Int)} {v_x_0 : Value} (f_x_0 : RdS (intE .i64) M w v_x_0 x) {traits : (List Int)} {v_traits_0 : Value} (f_traits_0 : RdS (intE .i64) M w v_traits_0 traits) {yes : Bool} {r0 : (List Int)} {r1 : Bool} (h : P.ref06_other m x traits yes = some (r0, r1)) :
  Calls Tryz.prog 19 (List.toArray [Value.agg (List.toArray [Value.int .i64 m.traits, v_m_1, v_m_2, Value.int .i64 m.need]), v_x_0, v_traits_0, Value.bool yes]) w fun e w' => ∃ v0_0 : Value, e = .returned (Value.tuple (List.toArray [v0_0, Value.bool r1])) ∧ (Own (intE .i64) 3 0 M w' v0_0 r0 ∧ ∀ b ∈ ob v0_0, w.heap.size ≤ b) ∧ Ext w w' := by
 have hI := Hp.start (Mu := []) hM
 refine calls_cw Tryz.func19 rfl Tryz.ntmps19 rfl ?_
 refine cw_seq (cw_regF ?_)
 refine y_box hI rfl rfl rfl ?_
 intro b1 w2 hI3 x4
 have hC6 := hI3.freezeRow 0 rfl
 have hI5 := hI3.erase 0
 refine s_as rfl rfl ?_
 refine s_as rfl rfl ?_
 refine Reg.nil ?_
 refine cw_seq (cw_regF ?_)
 refine s_as rfl rfl ?_
 refine Reg.nil ?_
 refine cw_seq (cw_seq (cw_regF ?_))
 refine s_as rfl rfl ?_
 refine Reg.nil ?_
 obtain ⟨j7, h8, h⟩ := bnd h
 refine cw_sub (L := [(10, _), (11, _), (1, _), (2, _), (3, _), (4, _)]) (Sub.cons rfl (Sub.cons rfl (Sub.cons rfl (Sub.cons rfl (Sub.cons rfl (Sub.cons rfl (Sub.nil _))))))) ?_
 refine cw_unitD 2 (ι := (List (List Int)) × Value) (fun ⟨x9, v10⟩ => [(10, v10)]) (fun ⟨x9, v10⟩ => fun w11 => Hp w [] M [ownR [] (sliceE (intE .i64)) 26 v10 x9] w11 ∧ Adv (mm [] M) (mm [ownR [] (sliceE (intE .i64)) 26 v10 x9] M) w2 w11 ∧ x9 = j7) ?_ ?_
 ·skip
  refine cw_block ?_
  refine cw_sub (L := [(10, _), (11, _), (1, _), (2, _), (3, _), (4, _)]) (Sub.cons rfl (Sub.cons rfl (Sub.cons rfl (Sub.cons rfl (Sub.cons rfl (Sub.cons rfl (Sub.nil _))))))) ?_
  have hI21 := hI5.addNil (sliceE (intE .i64)) 26
  refine cw_loopM 2 (ι := (List (List Int)) × Int × Value) _ (fun ⟨x14, x16, v15⟩ => [(10, v15), (11, Value.int .i64 x16)]) (fun ⟨x14, x16, v15⟩ => (x14, x16)) (fun ⟨x14, x16, v15⟩ => fun w18 => Hp w [] M [ownR [] (sliceE (intE .i64)) 26 v15 x14] w18 ∧ Adv (mm [] M) (mm [ownR [] (sliceE (intE .i64)) 26 v15 x14] M) w2 w18 ∧ InK .i64 x16) (([] : List (List Int)), 0, (Value.slice none 0 0)) h8 ⟨hI21, (Hp.addNilA (σ := []) (sliceE (intE .i64)) 26), (by decide)⟩ (Sub.cons rfl (Sub.cons rfl (Sub.cons rfl (Sub.cons rfl (Sub.cons rfl (Sub.cons rfl (Sub.nil _))))))) ?_
  rintro ⟨x14, x16, v15⟩ w18 ⟨hI19, hA20, r17⟩ y22 h23 hR24
  refine cw_seq (cw_seq (cw_regF ?_))
  refine s_mv rfl rfl ?_
  refine s_mv rfl rfl ?_
  refine s_len rfl (f_traits_0.adv hI19.adv) Tryz.underlying26 rfl ?_
  refine s_lss rfl rfl rfl ?_
  refine Reg.nil ?_
  refine cw_cond rfl (fun hc25 => ?_) (fun hc25 => ?_)
  ·replace h23 := cdT hc25 h23
   refine cw_skip ?_
   refine cw_seq ?_
   refine cw_block ?_
   refine cw_regSea [0, 1, 2, 3, 4, 5, 6] [7, 8, 9, 10] [] [9] [[9, 7, 1], [9, 7, 5, 4], [9, 7, 6]] [] fol (by kernel_rfl) rfl (by kernel_rfl) rfl rfl ?_
   refine s_mv rfl rfl ?_
   refine s_lda rfl (hC6.adv hA20).cells Tryz.isAgg25 rfl Tryz.sizeOf25 rfl ?_
   refine s_mv rfl rfl ?_
   refine s_mv rfl rfl ?_
   obtain ⟨y26, hy26, h23⟩ := bnd h23
   refine p_ia rfl rfl (f_traits_0.adv hI19.adv) hy26 Tryz.underlying26 Tryz.sizeOf3 rfl ?_
   intro b27 o28 cs29 hR30 hC31
   obtain ⟨rfl, r32⟩ := hR30
   refine s_ld rfl (hC31.cells.at 0 rfl) Tryz.isAgg3 rfl ?_
   refine s_bd [(0, 1), (1, 1)] Tryz.zeroValue57 rfl Tryz.underlying57 (fun _ => by simp [Tryz.sizeOf3]) rfl (Cls.cons rfl (Cls.cons rfl (Cls.nil))) rfl rfl ?_
   refine Reg.nilX ⟨rfl, rfl, rfl, ?_⟩
   intro w33 e34
   have hI35 := (Hp.start (Mu := []) hI19.mlt).ext e34
   refine SeaWalk.step [7] (by kernel_rfl) (AllL.cons ?_ (AllL.nil))
   refine ⟨_, [], rfl, RSub.nil, rfl, nodupB_spec rfl, ?_⟩
   simp only [relOut]
   obtain ⟨z36, hz37, h23⟩ := bnd h23
   refine s_call rfl Tryz.call32 rfl ?_
   refine (C_ref06_steps hI35.mlt f_m_0 (f_m_1.adv (hI19.adv.trans (Adv.of_ext e34))) (f_m_2.adv (hI19.adv.trans (Adv.of_ext e34))) f_m_3 r32 (by decide) (by decide) hz37).mono ?_
   rintro _ w38 ⟨v40, rfl, hf41, e39⟩
   refine ⟨_, rfl, ?_⟩
   have hI42 := hI35.ext e39
   refine Reg.nil ⟨rfl, .inr hI42.kp, rfl, ?_⟩
   intro w43 e44
   have hI45 := hI42.ext e44
   refine SeaWalk.step [8] (by kernel_rfl) (AllL.cons ?_ (AllL.nil))
   refine ⟨_, [], rfl, RSub.nil, rfl, nodupB_spec rfl, ?_⟩
   simp only [relOut]
   refine y_bs (E := (sliceE (intE .i64))) (xs := [z36]) sl53 hI45 rfl rfl (Cls.cons (RdS.cells1 hf41) Cls.nil) (Chs.cons ⟨_, rfl, (hf41.adv (Adv.of_ext e44))⟩ Chs.nil) rfl rfl ?_
   intro v46 w47 hI48 x49
   refine Reg.nil ⟨rfl, .inr hI48.kp, rfl, ?_⟩
   intro w50 e51
   have hI52 := hI48.ext e51
   refine SeaWalk.step [9] (by kernel_rfl) (AllL.cons ?_ (AllL.nil))
   refine ⟨_, [], rfl, RSub.nil, rfl, nodupB_spec rfl, ?_⟩
   simp only [relOut]
   have hI53 := hI19.join hI52
   have hf54 := hI53.freeze 0 rfl
   have hI55 := hI53.erase 0
   obtain ⟨l56, hl56, h23⟩ := bnd h23
   obtain ⟨hbl56, el56⟩ := appo_out hl56
   refine y_app 0 sl53 hI55 rfl rfl rfl hf54 hbl56 rfl ?_
   rw [← el56]
   intro v57 w58 hI59 x60
   refine Reg.nil ⟨rfl, .inl rfl, rfl, ?_⟩
   intro w61 e62
   have hI63 := hI59.ext e62
   refine SeaWalk.step [10] (by kernel_rfl) (AllL.cons ?_ (AllL.nil))
   refine ⟨_, [], rfl, RSub.nil, rfl, nodupB_spec rfl, ?_⟩
   simp only [relOut]
   refine s_as rfl rfl ?_
   refine Reg.nil ⟨rfl, .inl rfl, rfl, ?_⟩
   intro w64 e65
   have hI66 := hI63.ext e65
   refine SeaWalk.done ?_
   refine cw_regF ?_
   refine s_mv rfl rfl ?_
   obtain ⟨n67, hn67, h23⟩ := bnd h23
   replace hn67 := chk_out hn67
   refine p_add rfl rfl rfl hn67 ?_
   refine s_as rfl rfl ?_
   refine Reg.nil ?_
   obtain rfl := Option.some.inj h23
   refine ⟨rfl, (l56, n67, v57), ⟨⟨hI66, (hA20.trans ((Adv.of_ext e34).trans ((Adv.of_ext e39).trans ((Adv.of_ext e44).trans (x49.trans ((Adv.of_ext e51).trans ((Hp.eraseA (σ := [ownR [] (sliceE (intE .i64)) 26 v46 ([z36] : List (List Int)), ownR [] (sliceE (intE .i64)) 26 v15 x14]) 0).trans (x60.trans ((Adv.of_ext e62).trans (Adv.of_ext e65)))))))))), hn67.2⟩, rfl⟩, Sub.cons rfl (Sub.cons rfl (Sub.cons rfl (Sub.cons rfl (Sub.cons rfl (Sub.cons rfl (Sub.nil _))))))⟩
  ·replace h23 := cdF hc25 h23
   refine cw_exit ?_
   refine exB_same ?_
   obtain rfl := Option.some.inj h23
   obtain rfl := hR24 _ rfl
   refine ⟨rfl, (x14, v15), ⟨hI19, hA20, rfl⟩, Sub.cons rfl (Sub.cons rfl (Sub.cons rfl (Sub.cons rfl (Sub.cons rfl (Sub.nil _)))))⟩
 ·skip
  rintro ⟨x9, v10⟩ w11 ⟨hI12, hA13, rfl⟩
  refine cw_seq (cw_regF ?_)
  refine s_mv rfl rfl ?_
  refine s_len rfl (f_traits_0.adv hI12.adv) Tryz.underlying26 rfl ?_
  obtain ⟨l68, hl68, h⟩ := bnd h
  refine y_mk (E := (intE .i64)) (z := (Value.int .i64 0)) (z0 := (0 : Int)) sl26 (by kernel_rfl) rfl (fun _ _ => ⟨rfl, by decide⟩) hI12 rfl rfl hl68 rfl ?_
  intro v69 w70 hI71 x72
  refine s_as rfl rfl ?_
  refine Reg.nil ?_
  refine cw_seq (cw_seq (cw_regF ?_))
  refine s_as rfl rfl ?_
  refine Reg.nil ?_
  obtain ⟨j73, h74, h⟩ := bnd h
  refine cw_sub (L := [(1, _), (2, _), (3, _), (4, _), (10, _), (12, _), (13, _)]) (Sub.cons rfl (Sub.cons rfl (Sub.cons rfl (Sub.cons rfl (Sub.cons rfl (Sub.cons rfl (Sub.cons rfl (Sub.nil _)))))))) ?_
  refine cw_unitD 7 (ι := (List Int)) (fun x75 => []) (fun x75 => fun w76 => Hp w [] M [ownR [] (intE .i64) 3 v69 x75] w76 ∧ Adv (mm [ownR [] (intE .i64) 3 v69 l68, ownR [] (sliceE (intE .i64)) 26 v10 x9] M) (mm [ownR [] (intE .i64) 3 v69 x75] M) w70 w76 ∧ (.inl x75) = j73) ?_ ?_
  ·skip
   refine cw_block ?_
   refine cw_sub (L := [(10, _), (13, _), (1, _), (2, _), (3, _), (4, _), (12, _)]) (Sub.cons rfl (Sub.cons rfl (Sub.cons rfl (Sub.cons rfl (Sub.cons rfl (Sub.cons rfl (Sub.cons rfl (Sub.nil _)))))))) ?_
   have hf87 := hI71.freeze 1 rfl
   have hI88 := hI71.erase 1
   refine cw_loopM 2 (ι := (List (List Int)) × Bool × (List Int) × Value) _ (fun ⟨x79, x82, x83, v80⟩ => [(10, v80), (13, Value.bool x82)]) (fun ⟨x79, x82, x83, v80⟩ => (x79, x82, x83)) (fun ⟨x79, x82, x83, v80⟩ => fun w84 => Hp w [] M [ownR [] (intE .i64) 3 v69 x83] w84 ∧ Adv (mm [ownR [] (intE .i64) 3 v69 l68, ownR [] (sliceE (intE .i64)) 26 v10 x9] M) (mm [ownR [] (intE .i64) 3 v69 x83] M) w70 w84 ∧ RdS (sliceE (intE .i64)) (mm [ownR [] (intE .i64) 3 v69 x83] M) w84 v80 x79) (x9, true, l68, v10) h74 ⟨hI88, (Hp.eraseA (σ := [ownR [] (intE .i64) 3 v69 l68, ownR [] (sliceE (intE .i64)) 26 v10 x9]) 1), hf87⟩ (Sub.cons rfl (Sub.cons rfl (Sub.cons rfl (Sub.cons rfl (Sub.cons rfl (Sub.cons rfl (Sub.cons rfl (Sub.nil _)))))))) ?_
   rintro ⟨x79, x82, x83, v80⟩ w84 ⟨hI85, hA86, hf81⟩ y89 h90 hR91
   refine cw_seq ?_
   obtain ⟨j92, h93, h90⟩ := bnd h90
   refine cw_sub (L := [(13, _), (1, _), (2, _), (3, _), (4, _), (10, _), (12, _)]) (Sub.cons rfl (Sub.cons rfl (Sub.cons rfl (Sub.cons rfl (Sub.cons rfl (Sub.cons rfl (Sub.cons rfl (Sub.nil _)))))))) ?_
   refine cw_seqD 1 (ι := Bool × (List Int)) (fun ⟨x94, x95⟩ => [(41, Value.bool x94)]) (fun ⟨x94, x95⟩ => fun w96 => Hp w [] M [ownR [] (intE .i64) 3 v69 x95] w96 ∧ Adv (mm [ownR [] (intE .i64) 3 v69 x83] M) (mm [ownR [] (intE .i64) 3 v69 x95] M) w84 w96 ∧ (x94, x95) = j92) ?_ ?_
   ·skip
    refine cw_regF ?_
    refine s_mv rfl rfl ?_
    refine s_mv rfl rfl ?_
    refine Reg.gsplit (t := 37) rfl (fun hg99 => ?_) (fun hg99 => ?_)
    ·replace h93 := cdT hg99 h93
     refine Reg.pass rfl rfl rfl rfl ?_
     refine Reg.pass rfl rfl rfl rfl ?_
     refine Reg.pass rfl rfl rfl rfl ?_
     refine s_pkT rfl rfl rfl ?_
     refine Reg.nil ?_
     obtain rfl := Option.some.inj h93
     refine ⟨rfl, (true, x83), ⟨hI85, (Adv.refl _ _), rfl⟩, Sub.cons rfl (Sub.cons rfl (Sub.cons rfl (Sub.cons rfl (Sub.cons rfl (Sub.cons rfl (Sub.cons rfl (Sub.nil _)))))))⟩
    ·replace h93 := cdF hg99 h93
     refine Reg.take rfl rfl ?_
     refine s_mv rfl rfl ?_
     refine Reg.take rfl rfl ?_
     refine s_mv rfl rfl ?_
     refine Reg.take rfl rfl ?_
     obtain ⟨⟨z100, l101⟩, hz102, h93⟩ := bnd h93
     refine s_call rfl Tryz.call33 rfl ?_
     refine (C_ref06_next (hI85.erase 0).mlt (hI85.apart 0 rfl) (hI85.lendOwn 0 rfl) (hf81.adv (Hp.lendA (σ := [ownR [] (intE .i64) 3 v69 x83]) (M := M) 0 rfl)) hz102).mono ?_
     rintro _ w103 ⟨rfl, hf105⟩
     refine ⟨_, rfl, ?_⟩
     have hI106 := hI85.took 0 rfl hf105
     refine s_pkF rfl rfl rfl ?_
     refine Reg.nil ?_
     obtain rfl := Option.some.inj h93
     refine ⟨rfl, (z100, l101), ⟨hI106, (hI85.tookA 0 rfl hf105), rfl⟩, Sub.cons rfl (Sub.cons rfl (Sub.cons rfl (Sub.cons rfl (Sub.cons rfl (Sub.cons rfl (Sub.cons rfl (Sub.nil _)))))))⟩
   ·skip
    rintro ⟨x94, x95⟩ w96 ⟨hI97, hA98, rfl⟩
    refine cw_cond rfl (fun hc107 => ?_) (fun hc107 => ?_)
    ·replace h90 := cdT hc107 h90
     refine cw_skip ?_
     refine cw_seq ?_
     refine cw_block ?_
     refine cw_seq (cw_regF ?_)
     refine y_bs (E := (intE .i64)) (xs := []) sl26 hI97 rfl rfl Cls.nil Chs.nil rfl rfl ?_
     intro v108 w109 hI110 x111
     refine s_mv rfl rfl ?_
     obtain ⟨l112, hl112, h90⟩ := bnd h90
     obtain ⟨hbl112, el112⟩ := appo_out hl112
     refine y_app 0 sl26 hI110 rfl rfl rfl (f_x_0.adv hI110.adv) hbl112 rfl ?_
     rw [← el112]
     intro v113 w114 hI115 x116
     refine s_as rfl rfl ?_
     refine Reg.nil ?_
     refine cw_seq (cw_regF ?_)
     refine s_as rfl rfl ?_
     refine Reg.nil ?_
     refine cw_seq (cw_seq (cw_regF ?_))
     refine s_as rfl rfl ?_
     refine Reg.nil ?_
     obtain ⟨j117, h118, h90⟩ := bnd h90
     refine cw_sub (L := [(15, _), (16, _), (1, _), (2, _), (3, _), (4, _), (10, _), (12, _), (14, _)]) (Sub.cons rfl (Sub.cons rfl (Sub.cons rfl (Sub.cons rfl (Sub.cons rfl (Sub.cons rfl (Sub.cons rfl (Sub.cons rfl (Sub.cons rfl (Sub.nil _)))))))))) ?_
     refine cw_unitD 2 (ι := (List Int) × (List Int) × Value) (fun ⟨x119, x121, v120⟩ => [(15, v120)]) (fun ⟨x119, x121, v120⟩ => fun w122 => Hp w [] M [ownR [] (intE .i64) 3 v120 x119, ownR [] (intE .i64) 3 v113 x121, ownR [] (intE .i64) 3 v69 x95] w122 ∧ Adv (mm [ownR [] (intE .i64) 3 v113 l112, ownR [] (intE .i64) 3 v69 x95] M) (mm [ownR [] (intE .i64) 3 v120 x119, ownR [] (intE .i64) 3 v113 x121, ownR [] (intE .i64) 3 v69 x95] M) w114 w122 ∧ (x119, x121) = j117) ?_ ?_
     ·skip
      refine cw_block ?_
      refine cw_sub (L := [(15, _), (16, _), (1, _), (2, _), (3, _), (4, _), (10, _), (12, _), (14, _)]) (Sub.cons rfl (Sub.cons rfl (Sub.cons rfl (Sub.cons rfl (Sub.cons rfl (Sub.cons rfl (Sub.cons rfl (Sub.cons rfl (Sub.cons rfl (Sub.nil _)))))))))) ?_
      have hI133 := hI115.addNil (intE .i64) 3
      refine cw_loopM 2 (ι := (List Int) × Int × (List Int) × Value) _ (fun ⟨x125, x127, x129, v126⟩ => [(15, v126), (16, Value.int .i64 x127)]) (fun ⟨x125, x127, x129, v126⟩ => (x125, x127, x129)) (fun ⟨x125, x127, x129, v126⟩ => fun w130 => Hp w [] M [ownR [] (intE .i64) 3 v126 x125, ownR [] (intE .i64) 3 v113 x129, ownR [] (intE .i64) 3 v69 x95] w130 ∧ Adv (mm [ownR [] (intE .i64) 3 v113 l112, ownR [] (intE .i64) 3 v69 x95] M) (mm [ownR [] (intE .i64) 3 v126 x125, ownR [] (intE .i64) 3 v113 x129, ownR [] (intE .i64) 3 v69 x95] M) w114 w130 ∧ InK .i64 x127) (([] : List Int), 0, l112, (Value.slice none 0 0)) h118 ⟨hI133, (Hp.addNilA (σ := [ownR [] (intE .i64) 3 v113 l112, ownR [] (intE .i64) 3 v69 x95]) (intE .i64) 3), (by decide)⟩ (Sub.cons rfl (Sub.cons rfl (Sub.cons rfl (Sub.cons rfl (Sub.cons rfl (Sub.cons rfl (Sub.cons rfl (Sub.cons rfl (Sub.cons rfl (Sub.nil _)))))))))) ?_
      rintro ⟨x125, x127, x129, v126⟩ w130 ⟨hI131, hA132, r128⟩ y134 h135 hR136
      refine cw_seq (cw_seq (cw_regF ?_))
      refine s_mv rfl rfl ?_
      refine s_mv rfl rfl ?_
      refine s_len rfl (f_traits_0.adv hI131.adv) Tryz.underlying26 rfl ?_
      refine s_lss rfl rfl rfl ?_
      refine Reg.nil ?_
      refine cw_cond rfl (fun hc137 => ?_) (fun hc137 => ?_)
      ·replace h135 := cdT hc137 h135
       refine cw_skip ?_
       refine cw_seq ?_
       refine cw_block ?_
       refine cw_seq ?_
       refine cw_regSea [0, 1, 2, 3, 4, 5, 6, 7, 8, 9, 10, 11, 12, 13, 14, 15] [16] [] [16] [[16, 3], [16, 4], [16, 7], [16, 8], [16, 11], [16, 12], [16, 13], [16, 14], [16, 15]] [] fol (by kernel_rfl) rfl (by kernel_rfl) rfl rfl ?_
       refine s_mv rfl rfl ?_
       refine s_mv rfl rfl ?_
       refine s_mv rfl rfl ?_
       obtain ⟨y138, hy138, h135⟩ := bnd h135
       refine p_ia rfl rfl (f_traits_0.adv hI131.adv) hy138 Tryz.underlying26 Tryz.sizeOf3 rfl ?_
       intro b139 o140 cs141 hR142 hC143
       obtain ⟨rfl, r144⟩ := hR142
       refine s_ld rfl (hC143.cells.at 0 rfl) Tryz.isAgg3 rfl ?_
       refine s_mv rfl rfl ?_
       refine s_mv rfl rfl ?_
       obtain ⟨y145, hy145, h135⟩ := bnd h135
       refine p_ia rfl rfl (hf81.adv (hA98.trans (x111.trans (x116.trans hA132)))) hy145 Tryz.underlying53 Tryz.sizeOf26 rfl ?_
       intro b146 o147 cs148 hR149 hC150
       obtain ⟨v151, rfl, hf152⟩ := hR149
       refine s_ld rfl (hC150.cells.at 0 rfl) Tryz.isAgg26 rfl ?_
       refine s_mv rfl rfl ?_
       refine s_mv rfl rfl ?_
       obtain ⟨y153, hy153, h135⟩ := bnd h135
       refine y_ia 2 hI131 rfl rfl rfl hy153 Tryz.underlying26 Tryz.sizeOf3 rfl ?_
       intro g154 cs155 hg156 hR157 hC158
       have khR157 := hR157
       obtain ⟨rfl, r159⟩ := hR157
       refine s_ld rfl (hC158.at 0 rfl) Tryz.isAgg3 rfl ?_
       obtain ⟨y160, hy160, h135⟩ := bnd h135
       refine p_ia rfl rfl hf152 hy160 Tryz.underlying26 Tryz.sizeOf3 rfl ?_
       intro b161 o162 cs163 hR164 hC165
       obtain ⟨rfl, r166⟩ := hR164
       refine s_ld rfl (hC165.cells.at 0 rfl) Tryz.isAgg3 rfl ?_
       obtain ⟨y167, hy167, h135⟩ := bnd h135
       refine y_ia 1 hI131 rfl rfl rfl hy167 Tryz.underlying26 Tryz.sizeOf3 rfl ?_
       intro g168 cs169 hg170 hR171 hC172
       have khR171 := hR171
       obtain ⟨rfl, r173⟩ := hR171
       refine Reg.nilX ⟨rfl, rfl, rfl, ?_⟩
       intro w174 e175
       have hI176 := (Hp.start (Mu := []) hI131.mlt).ext e175
       refine SeaWalk.step [16] (by kernel_rfl) (AllL.cons ?_ (AllL.nil))
       refine ⟨_, [], rfl, RSub.nil, rfl, nodupB_spec rfl, ?_⟩
       simp only [relOut]
       have hI177 := hI131.join hI176
       obtain ⟨cs178, hR179, hC180⟩ := (hI177.ownAt 1 rfl).cellsAt hg170 (ixo_out hy167).2.2
       have khR179 := hR179
       obtain ⟨rfl, r181⟩ := hR179
       obtain ⟨l182, hl182, h135⟩ := bnd h135
       refine y_sto 1 (E := (intE .i64)) (o := 0) hI177 rfl rfl rfl rfl hg170 hl182 ⟨rfl, r181⟩ hC180 ⟨rfl, r166⟩ rfl Tryz.sizeOf3 rfl (one1 rfl one0) ?_
       intro w183 hI184 x185
       refine Reg.nil ⟨rfl, .inl rfl, rfl, ?_⟩
       intro w186 e187
       have hI188 := hI184.ext e187
       refine SeaWalk.done ?_
       refine cw_regSea [0, 1, 2, 3, 4, 5, 6, 7, 8, 9, 10] [11, 12, 13] [] [12] [[12, 11, 10, 9, 4, 3], [12, 11, 10, 9, 8, 7]] [] fol (by kernel_rfl) rfl (by kernel_rfl) rfl rfl ?_
       refine s_mv rfl rfl ?_
       refine s_mv rfl rfl ?_
       refine s_mv rfl rfl ?_
       obtain ⟨y189, hy189, h135⟩ := bnd h135
       refine p_ia rfl rfl (hf81.adv (hA98.trans (x111.trans (x116.trans (hA132.trans ((Adv.of_ext e175).trans (x185.trans (Adv.of_ext e187)))))))) hy189 Tryz.underlying53 Tryz.sizeOf26 rfl ?_
       intro b190 o191 cs192 hR193 hC194
       obtain ⟨v195, rfl, hf196⟩ := hR193
       refine s_ld rfl (hC194.cells.at 0 rfl) Tryz.isAgg26 rfl ?_
       refine s_mv rfl rfl ?_
       refine s_mv rfl rfl ?_
       obtain ⟨y197, hy197, h135⟩ := bnd h135
       refine y_ia 2 hI188 rfl rfl rfl hy197 Tryz.underlying26 Tryz.sizeOf3 rfl ?_
       intro g198 cs199 hg200 hR201 hC202
       have khR201 := hR201
       obtain ⟨rfl, r203⟩ := hR201
       refine s_ld rfl (hC202.at 0 rfl) Tryz.isAgg3 rfl ?_
       obtain ⟨y204, hy204, h135⟩ := bnd h135
       refine p_ia rfl rfl hf196 hy204 Tryz.underlying26 Tryz.sizeOf3 rfl ?_
       intro b205 o206 cs207 hR208 hC209
       obtain ⟨rfl, r210⟩ := hR208
       refine s_ld rfl (hC209.cells.at 0 rfl) Tryz.isAgg3 rfl ?_
       refine Reg.nilX ⟨rfl, rfl, rfl, ?_⟩
       intro w211 e212
       have hI213 := (Hp.start (Mu := []) hI188.mlt).ext e212
       refine SeaWalk.step [11] (by kernel_rfl) (AllL.cons ?_ (AllL.nil))
       refine ⟨_, [], rfl, RSub.nil, rfl, nodupB_spec rfl, ?_⟩
       simp only [relOut]
       refine y_bs (E := (intE .i64)) (xs := [y204]) sl26 hI213 rfl rfl (Cls.cons rfl Cls.nil) (Chs.cons ⟨rfl, r210⟩ Chs.nil) rfl rfl ?_
       intro v214 w215 hI216 x217
       refine Reg.nil ⟨rfl, .inr hI216.kp, rfl, ?_⟩
       intro w218 e219
       have hI220 := hI216.ext e219
       refine SeaWalk.step [12] (by kernel_rfl) (AllL.cons ?_ (AllL.nil))
       refine ⟨_, [], rfl, RSub.nil, rfl, nodupB_spec rfl, ?_⟩
       simp only [relOut]
       have hI221 := hI188.join hI220
       have hf222 := hI221.freeze 0 rfl
       have hI223 := hI221.erase 0
       obtain ⟨l224, hl224, h135⟩ := bnd h135
       obtain ⟨hbl224, el224⟩ := appo_out hl224
       refine y_app 0 sl26 hI223 rfl rfl rfl hf222 hbl224 rfl ?_
       rw [← el224]
       intro v225 w226 hI227 x228
       refine Reg.nil ⟨rfl, .inl rfl, rfl, ?_⟩
       intro w229 e230
       have hI231 := hI227.ext e230
       refine SeaWalk.step [13] (by kernel_rfl) (AllL.cons ?_ (AllL.nil))
       refine ⟨_, [], rfl, RSub.nil, rfl, nodupB_spec rfl, ?_⟩
       simp only [relOut]
       refine s_as rfl rfl ?_
       refine Reg.nil ⟨rfl, .inl rfl, rfl, ?_⟩
       intro w232 e233
       have hI234 := hI231.ext e233
       refine SeaWalk.done ?_
       refine cw_regF ?_
       refine s_mv rfl rfl ?_
       obtain ⟨n235, hn235, h135⟩ := bnd h135
       replace hn235 := chk_out hn235
       refine p_add rfl rfl rfl hn235 ?_
       refine s_as rfl rfl ?_
       refine Reg.nil ?_
       obtain rfl := Option.some.inj h135
       refine ⟨rfl, (l224, n235, l182, v225), ⟨⟨hI234, (hA132.trans ((Adv.of_ext e175).trans (x185.trans ((Adv.of_ext e187).trans ((Adv.of_ext e212).trans (x217.trans ((Adv.of_ext e219).trans ((Hp.eraseA (σ := [ownR [] (intE .i64) 3 v214 ([y204] : List Int), ownR [] (intE .i64) 3 v126 x125, ownR [] (intE .i64) 3 v113 l182, ownR [] (intE .i64) 3 v69 x95]) 0).trans (x228.trans ((Adv.of_ext e230).trans (Adv.of_ext e233))))))))))), hn235.2⟩, rfl⟩, Sub.cons rfl (Sub.cons rfl (Sub.cons rfl (Sub.cons rfl (Sub.cons rfl (Sub.cons rfl (Sub.cons rfl (Sub.cons rfl (Sub.cons rfl (Sub.nil _)))))))))⟩
      ·replace h135 := cdF hc137 h135
       refine cw_exit ?_
       refine exB_same ?_
       obtain rfl := Option.some.inj h135
       obtain rfl := hR136 _ rfl
       refine ⟨rfl, (x125, x129, v126), ⟨hI131, hA132, rfl⟩, Sub.cons rfl (Sub.cons rfl (Sub.cons rfl (Sub.cons rfl (Sub.cons rfl (Sub.cons rfl (Sub.cons rfl (Sub.cons rfl (Sub.nil _))))))))⟩
     ·skip
      rintro ⟨x119, x121, v120⟩ w122 ⟨hI123, hA124, rfl⟩
      refine cw_seq ?_
      refine cw_regT fol (by kernel_rfl) ?_
      refine s_lda rfl (hC6.adv (hA13.trans (x72.trans (hA86.trans (hA98.trans (x111.trans (x116.trans hA124))))))).cells Tryz.isAgg25 rfl Tryz.sizeOf25 rfl ?_
      refine s_mv rfl rfl ?_
      obtain ⟨z236, hz237, h90⟩ := bnd h90
      refine s_callq rfl rfl Tryz.call31 rfl (fun w238 e239 => (C_ref06_score ((hI123.sel [0, 2] rfl).mlt.ext e239) f_m_0 (((f_m_1.adv hI123.adv).adv (Hp.selA (σ := [ownR [] (intE .i64) 3 v120 x119, ownR [] (intE .i64) 3 v113 x121, ownR [] (intE .i64) 3 v69 x95]) [0, 2])).adv (Adv.of_ext e239)) (((f_m_2.adv hI123.adv).adv (Hp.selA (σ := [ownR [] (intE .i64) 3 v120 x119, ownR [] (intE .i64) 3 v113 x121, ownR [] (intE .i64) 3 v69 x95]) [0, 2])).adv (Adv.of_ext e239)) f_m_3 ((hI123.lendRd [0, 2] 1 rfl rfl).adv (Adv.of_ext e239)) hz237).mono (fun _ _ hq => ⟨hq.1, hq.2.2⟩)) ?_
      have r240 := Calls.fact (C_ref06_score (hI123.sel [0, 2] rfl).mlt f_m_0 ((f_m_1.adv hI123.adv).adv (Hp.selA (σ := [ownR [] (intE .i64) 3 v120 x119, ownR [] (intE .i64) 3 v113 x121, ownR [] (intE .i64) 3 v69 x95]) [0, 2])) ((f_m_2.adv hI123.adv).adv (Hp.selA (σ := [ownR [] (intE .i64) 3 v120 x119, ownR [] (intE .i64) 3 v113 x121, ownR [] (intE .i64) 3 v69 x95]) [0, 2])) f_m_3 (hI123.lendRd [0, 2] 1 rfl rfl) hz237) (fun _ _ hq => hq.2.1)
      refine s_fa rfl Tryz.underlying25 rfl Tryz.sizeOf3 rfl ?_
      refine s_ld rfl ((hC6.adv (hA13.trans (x72.trans (hA86.trans (hA98.trans (x111.trans (x116.trans hA124))))))).cells.at 3 rfl) Tryz.isAgg3 rfl ?_
      obtain ⟨n241, hn241, h90⟩ := bnd h90
      replace hn241 := chk_out hn241
      refine p_mul rfl rfl rfl hn241 ?_
      refine s_geq rfl rfl rfl ?_
      refine s_mv rfl rfl ?_
      refine s_neB rfl rfl rfl Tryz.underlying4 ?_
      refine Reg.nilq (fun w242 e243 => ?_)
      have hI244 := hI123.ext e243
      refine cw_cond rfl (fun hc245 => ?_) (fun hc245 => ?_)
      ·replace h90 := cdT hc245 h90
       refine cw_seq (cw_regF ?_)
       refine s_mv rfl rfl ?_
       refine s_as rfl rfl ?_
       refine s_as rfl rfl ?_
       refine Reg.nil ?_
       refine cw_ret ?_
       obtain rfl := Option.some.inj h90
       obtain rfl := hR91 _ rfl
       replace h := elimR h
       obtain ⟨rfl, rfl⟩ := inj2 h
       refine fin2 Tryz.results19 rfl rfl ?_
       exact ⟨_, rfl, (hI244.ownOut 0 rfl), hI244.kp⟩
      ·replace h90 := cdF hc245 h90
       refine cw_skip ?_
       refine cw_regF ?_
       refine s_as rfl rfl ?_
       refine Reg.nil ?_
       obtain rfl := Option.some.inj h90
       refine ⟨rfl, (x79, false, x95, v80), ⟨⟨(hI244.sel [2] rfl), ((hA86.trans (hA98.trans (x111.trans (x116.trans (hA124.trans (Adv.of_ext e243)))))).trans (Hp.selA (σ := [ownR [] (intE .i64) 3 v120 x119, ownR [] (intE .i64) 3 v113 x121, ownR [] (intE .i64) 3 v69 x95]) [2])), ((hf81.adv (hA98.trans (x111.trans (x116.trans (hA124.trans (Adv.of_ext e243)))))).adv (Hp.selA (σ := [ownR [] (intE .i64) 3 v120 x119, ownR [] (intE .i64) 3 v113 x121, ownR [] (intE .i64) 3 v69 x95]) [2]))⟩, rfl⟩, Sub.cons rfl (Sub.cons rfl (Sub.cons rfl (Sub.cons rfl (Sub.cons rfl (Sub.cons rfl (Sub.cons rfl (Sub.nil _)))))))⟩
    ·replace h90 := cdF hc107 h90
     refine cw_exit ?_
     refine exB_same ?_
     obtain rfl := Option.some.inj h90
     obtain rfl := hR91 _ rfl
     refine ⟨rfl, x95, ⟨hI97, (hA86.trans hA98), rfl⟩, Sub.nil _⟩
  ·skip
   rintro x75 w76 ⟨hI77, hA78, rfl⟩
   replace h := elimL h
   refine cw_seq (cw_regF ?_)
   refine s_as rfl rfl ?_
   refine s_as rfl rfl ?_
   refine Reg.nil ?_
   refine cw_ret ?_
   obtain ⟨rfl, rfl⟩ := inj2 h
   refine fin2 Tryz.results19 rfl rfl ?_
   exact ⟨_, rfl, ⟨Own.nil _ _ _ _ _, fun _ hb => by cases hb⟩, hI77.kp⟩
noncomputable def P.ref06_set (bits : Int) (n : Int) : Option (List Int) :=
 Option.bind (loopM (S := (List Int) × Int) (R := ((List Int))) (fun (x1, x2) => cond (decide (x2 < n)) (Option.bind (Option.bind (shrO bits x2 IntKind.i64.bits) fun n4 => Option.bind (cond (decide (andI .i64 n4 1 = 1)) (Option.bind (appo 8 x1 ([x2] : List Int)) fun l12 => some l12) (some x1)) fun x17 => some x17) fun x18 => Option.bind (chk .i64 (x2 + 1)) fun n19 => some (.inl (x18, n19))) (some (.inr x1))) ([], 0)) fun x20 => some x20
theorem C_ref06_set {M : List Nat} {w : World} (hM : MLt M w) {bits : Int} (f_bits_0 : InK .i64 bits) {n : Int} (f_n_0 : InK .i64 n) {r0 : (List Int)} (h : P.ref06_set bits n = some r0) :
  Calls Tryz.prog 17 (List.toArray [Value.int .i64 bits, Value.int .i64 n]) w fun e w' => ∃ v0_0 : Value, e = .returned (v0_0) ∧ (Own (intE .i64) 3 0 M w' v0_0 r0 ∧ ∀ b ∈ ob v0_0, w.heap.size ≤ b) ∧ Ext w w' := by
 have hI := Hp.start (Mu := []) hM
 refine calls_cw Tryz.func17 rfl Tryz.ntmps17 rfl ?_
 refine cw_seq (cw_regF ?_)
 refine s_as rfl rfl ?_
 refine Reg.nil ?_
 refine cw_seq (cw_regF ?_)
 refine s_as rfl rfl ?_
 refine Reg.nil ?_
 refine cw_seq (cw_seq (cw_regF ?_))
 refine s_as rfl rfl ?_
 refine Reg.nil ?_
 obtain ⟨j1, h2, h⟩ := bnd h
 refine cw_sub (L := [(0, _), (1, _), (5, _), (6, _)]) (Sub.cons rfl (Sub.cons rfl (Sub.cons rfl (Sub.cons rfl (Sub.nil _))))) ?_
 refine cw_unitD 4 (ι := (List Int) × Value) (fun ⟨x3, v4⟩ => [(5, v4)]) (fun ⟨x3, v4⟩ => fun w5 => Hp w [] M [ownR [] (intE .i64) 3 v4 x3] w5 ∧ Adv (mm [] M) (mm [ownR [] (intE .i64) 3 v4 x3] M) w w5 ∧ x3 = j1) ?_ ?_
 ·skip
  refine cw_block ?_
  refine cw_sub (L := [(5, _), (6, _), (0, _), (1, _)]) (Sub.cons rfl (Sub.cons rfl (Sub.cons rfl (Sub.cons rfl (Sub.nil _))))) ?_
  have hI15 := hI.addNil (intE .i64) 3
  refine cw_loopM 2 (ι := (List Int) × Int × Value) _ (fun ⟨x8, x10, v9⟩ => [(5, v9), (6, Value.int .i64 x10)]) (fun ⟨x8, x10, v9⟩ => (x8, x10)) (fun ⟨x8, x10, v9⟩ => fun w12 => Hp w [] M [ownR [] (intE .i64) 3 v9 x8] w12 ∧ Adv (mm [] M) (mm [ownR [] (intE .i64) 3 v9 x8] M) w w12 ∧ InK .i64 x10) (([] : List Int), 0, (Value.slice none 0 0)) h2 ⟨hI15, hI15.adv, (by decide)⟩ (Sub.cons rfl (Sub.cons rfl (Sub.cons rfl (Sub.cons rfl (Sub.nil _))))) ?_
  rintro ⟨x8, x10, v9⟩ w12 ⟨hI13, hA14, r11⟩ y16 h17 hR18
  refine cw_seq (cw_seq (cw_regF ?_))
  refine s_mv rfl rfl ?_
  refine s_mv rfl rfl ?_
  refine s_lss rfl rfl rfl ?_
  refine Reg.nil ?_
  refine cw_cond rfl (fun hc19 => ?_) (fun hc19 => ?_)
  ·replace h17 := cdT hc19 h17
   refine cw_skip ?_
   obtain ⟨j20, h21, h17⟩ := bnd h17
   refine cw_sub (L := [(5, _), (0, _), (1, _), (6, _)]) (Sub.cons rfl (Sub.cons rfl (Sub.cons rfl (Sub.cons rfl (Sub.nil _))))) ?_
   refine cw_seqD 1 (ι := (List Int) × Value) (fun ⟨x22, v23⟩ => [(5, v23)]) (fun ⟨x22, v23⟩ => fun w24 => Hp w [] M [ownR [] (intE .i64) 3 v23 x22] w24 ∧ Adv (mm [ownR [] (intE .i64) 3 v9 x8] M) (mm [ownR [] (intE .i64) 3 v23 x22] M) w12 w24 ∧ x22 = j20) ?_ ?_
   ·skip
    refine cw_block ?_
    refine cw_seq (cw_regF ?_)
    refine s_mv rfl rfl ?_
    refine s_mv rfl rfl ?_
    obtain ⟨n27, hn27, h21⟩ := bnd h21
    refine p_shr rfl rfl rfl hn27 ?_
    refine s_and rfl rfl rfl ?_
    refine s_eql rfl rfl rfl ?_
    refine Reg.nil ?_
    obtain ⟨j28, h29, h21⟩ := bnd h21
    refine cw_sub (L := [(5, _), (16, _), (0, _), (1, _), (6, _)]) (Sub.cons rfl (Sub.cons rfl (Sub.cons rfl (Sub.cons rfl (Sub.cons rfl (Sub.nil _)))))) ?_
    refine cw_unitD 2 (ι := (List Int) × Value) (fun ⟨x30, v31⟩ => [(5, v31)]) (fun ⟨x30, v31⟩ => fun w32 => Hp w [] M [ownR [] (intE .i64) 3 v31 x30] w32 ∧ Adv (mm [ownR [] (intE .i64) 3 v9 x8] M) (mm [ownR [] (intE .i64) 3 v31 x30] M) w12 w32 ∧ x30 = j28) ?_ ?_
    ·skip
     refine cw_cond rfl (fun hc35 => ?_) (fun hc35 => ?_)
     ·replace h29 := cdT hc35 h29
      refine cw_regF ?_
      refine s_mv rfl rfl ?_
      refine s_mv rfl rfl ?_
      refine y_bs (E := (intE .i64)) (xs := [x10]) sl26 hI13 rfl rfl (Cls.cons rfl Cls.nil) (Chs.cons ⟨rfl, r11⟩ Chs.nil) rfl rfl ?_
      intro v36 w37 hI38 x39
      have hf40 := hI38.freeze 0 rfl
      have hI41 := hI38.erase 0
      obtain ⟨l42, hl42, h29⟩ := bnd h29
      obtain ⟨hbl42, el42⟩ := appo_out hl42
      refine y_app 0 sl26 hI41 rfl rfl rfl hf40 hbl42 rfl ?_
      rw [← el42]
      intro v43 w44 hI45 x46
      refine s_as rfl rfl ?_
      refine Reg.nil ?_
      obtain rfl := Option.some.inj h29
      refine ⟨rfl, (l42, v43), ⟨hI45, (x39.trans ((Hp.eraseA (σ := [ownR [] (intE .i64) 3 v36 ([x10] : List Int), ownR [] (intE .i64) 3 v9 x8]) 0).trans x46)), rfl⟩, Sub.cons rfl (Sub.cons rfl (Sub.cons rfl (Sub.cons rfl (Sub.nil _))))⟩
     ·replace h29 := cdF hc35 h29
      refine cw_skip ?_
      obtain rfl := Option.some.inj h29
      refine ⟨rfl, (x8, v9), ⟨hI13, (Adv.refl _ _), rfl⟩, Sub.cons rfl (Sub.cons rfl (Sub.cons rfl (Sub.cons rfl (Sub.nil _))))⟩
    ·skip
     rintro ⟨x30, v31⟩ w32 ⟨hI33, hA34, rfl⟩
     obtain rfl := Option.some.inj h21
     refine ⟨rfl, (x30, v31), ⟨hI33, hA34, rfl⟩, Sub.cons rfl (Sub.cons rfl (Sub.cons rfl (Sub.cons rfl (Sub.nil _))))⟩
   ·skip
    rintro ⟨x22, v23⟩ w24 ⟨hI25, hA26, rfl⟩
    refine cw_regF ?_
    refine s_mv rfl rfl ?_
    obtain ⟨n47, hn47, h17⟩ := bnd h17
    replace hn47 := chk_out hn47
    refine p_add rfl rfl rfl hn47 ?_
    refine s_as rfl rfl ?_
    refine Reg.nil ?_
    obtain rfl := Option.some.inj h17
    refine ⟨rfl, (x22, n47, v23), ⟨⟨hI25, hI25.adv, hn47.2⟩, rfl⟩, Sub.cons rfl (Sub.cons rfl (Sub.cons rfl (Sub.cons rfl (Sub.nil _))))⟩
  ·replace h17 := cdF hc19 h17
   refine cw_exit ?_
   refine exB_same ?_
   obtain rfl := Option.some.inj h17
   obtain rfl := hR18 _ rfl
   refine ⟨rfl, (x8, v9), ⟨hI13, hI13.adv, rfl⟩, Sub.cons rfl (Sub.nil _)⟩
 ·skip
  rintro ⟨x3, v4⟩ w5 ⟨hI6, hA7, rfl⟩
  refine cw_seq (cw_regF ?_)
  refine s_mv rfl rfl ?_
  refine s_as rfl rfl ?_
  refine Reg.nil ?_
  refine cw_ret ?_
  obtain rfl := Option.some.inj h
  refine fin1 Tryz.results17 rfl ?_
  exact ⟨_, rfl, (hI6.ownOut 0 rfl), hI6.kp⟩
noncomputable def P.ref06_earlier (a : (List Int)) (b : (List Int)) : Option Bool :=
 Option.bind (loopM (S := Int) (R := (Unit) ⊕ (Bool)) (fun x1 => cond (decide (x1 < (a.length : Int))) (Option.bind (ixo a x1) fun y3 => Option.bind (ixo b x1) fun y10 => cond (!decide (y3 = y10)) (Option.bind (ixo a x1) fun y21 => Option.bind (ixo b x1) fun y28 => some (.inr (.inr (decide (y21 < y28))))) (Option.bind (chk .i64 (x1 + 1)) fun n38 => some (.inl n38))) (some (.inr (.inl ())))) 0) fun j39 => Sum.elim (fun _ => some false) (fun r40 => some r40)  j39
theorem C_ref06_earlier {M : List Nat} {w : World} (hM : MLt M w) {a : (List Int)} {v_a_0 : Value} (f_a_0 : RdS (intE .i64) M w v_a_0 a) {b : (List Int)} {v_b_0 : Value} (f_b_0 : RdS (intE .i64) M w v_b_0 b) {r0 : Bool} (h : P.ref06_earlier a b = some r0) :
  Calls Tryz.prog 18 (List.toArray [v_a_0, v_b_0]) w fun e w' => e = .returned (Value.bool r0) ∧ Ext w w' := by
 have hI := Hp.start (Mu := []) hM
 refine calls_cw Tryz.func18 rfl Tryz.ntmps18 rfl ?_
 refine cw_seq (cw_regF ?_)
 refine s_as rfl rfl ?_
 refine Reg.nil ?_
 refine cw_seq (cw_seq (cw_regF ?_))
 refine s_as rfl rfl ?_
 refine Reg.nil ?_
 obtain ⟨j1, h2, h⟩ := bnd h
 refine cw_sub (L := [(0, _), (1, _), (5, _)]) (Sub.cons rfl (Sub.cons rfl (Sub.cons rfl (Sub.nil _)))) ?_
 refine cw_unitD 3 (ι := Unit) (fun _ => []) (fun _ => fun w3 => Hp w [] M [] w3 ∧ Adv (mm [] M) (mm [] M) w w3 ∧ (.inl ()) = j1) ?_ ?_
 ·skip
  refine cw_block ?_
  refine cw_sub (L := [(5, _), (0, _), (1, _)]) (Sub.cons rfl (Sub.cons rfl (Sub.cons rfl (Sub.nil _)))) ?_
  refine cw_loopM 1 (ι := Int) _ (fun x6 => [(5, Value.int .i64 x6)]) (fun x6 => x6) (fun x6 => fun w8 => Hp w [] M [] w8 ∧ Adv (mm [] M) (mm [] M) w w8 ∧ InK .i64 x6) 0 h2 ⟨hI, (Adv.refl _ _), (by decide)⟩ (Sub.cons rfl (Sub.cons rfl (Sub.cons rfl (Sub.nil _)))) ?_
  rintro x6 w8 ⟨hI9, hA10, r7⟩ y11 h12 hR13
  refine cw_seq (cw_seq (cw_regF ?_))
  refine s_mv rfl rfl ?_
  refine s_mv rfl rfl ?_
  refine s_len rfl (f_a_0.adv hI9.adv) Tryz.underlying26 rfl ?_
  refine s_lss rfl rfl rfl ?_
  refine Reg.nil ?_
  refine cw_cond rfl (fun hc14 => ?_) (fun hc14 => ?_)
  ·replace h12 := cdT hc14 h12
   refine cw_skip ?_
   refine cw_seq ?_
   refine cw_block ?_
   refine cw_seq ?_
   refine cw_regT fol (by kernel_rfl) ?_
   refine s_mv rfl rfl ?_
   refine s_mv rfl rfl ?_
   obtain ⟨y15, hy15, h12⟩ := bnd h12
   refine p_ia rfl rfl (f_a_0.adv hI9.adv) hy15 Tryz.underlying26 Tryz.sizeOf3 rfl ?_
   intro b16 o17 cs18 hR19 hC20
   obtain ⟨rfl, r21⟩ := hR19
   refine s_ld rfl (hC20.cells.at 0 rfl) Tryz.isAgg3 rfl ?_
   refine s_mv rfl rfl ?_
   refine s_mv rfl rfl ?_
   obtain ⟨y22, hy22, h12⟩ := bnd h12
   refine p_ia rfl rfl (f_b_0.adv hI9.adv) hy22 Tryz.underlying26 Tryz.sizeOf3 rfl ?_
   intro b23 o24 cs25 hR26 hC27
   obtain ⟨rfl, r28⟩ := hR26
   refine s_ld rfl (hC27.cells.at 0 rfl) Tryz.isAgg3 rfl ?_
   refine s_neq rfl rfl rfl ?_
   refine Reg.nilq (fun w29 e30 => ?_)
   have hI31 := hI9.ext e30
   refine cw_cond rfl (fun hc32 => ?_) (fun hc32 => ?_)
   ·replace h12 := cdT hc32 h12
    refine cw_seq ?_
    refine cw_regT fol (by kernel_rfl) ?_
    refine s_mv rfl rfl ?_
    refine s_mv rfl rfl ?_
    obtain ⟨y33, hy33, h12⟩ := bnd h12
    refine p_ia rfl rfl (f_a_0.adv hI31.adv) hy33 Tryz.underlying26 Tryz.sizeOf3 rfl ?_
    intro b34 o35 cs36 hR37 hC38
    obtain ⟨rfl, r39⟩ := hR37
    refine s_ld rfl (hC38.cells.at 0 rfl) Tryz.isAgg3 rfl ?_
    refine s_mv rfl rfl ?_
    refine s_mv rfl rfl ?_
    obtain ⟨y40, hy40, h12⟩ := bnd h12
    refine p_ia rfl rfl (f_b_0.adv hI31.adv) hy40 Tryz.underlying26 Tryz.sizeOf3 rfl ?_
    intro b41 o42 cs43 hR44 hC45
    obtain ⟨rfl, r46⟩ := hR44
    refine s_ld rfl (hC45.cells.at 0 rfl) Tryz.isAgg3 rfl ?_
    refine s_lss rfl rfl rfl ?_
    refine s_as rfl rfl ?_
    refine Reg.nilq (fun w47 e48 => ?_)
    have hI49 := hI31.ext e48
    refine cw_ret ?_
    obtain rfl := Option.some.inj h12
    obtain rfl := hR13 _ rfl
    replace h := elimR h
    obtain rfl := Option.some.inj h
    refine fin1 Tryz.results18 rfl ?_
    exact ⟨rfl, hI49.kp⟩
   ·replace h12 := cdF hc32 h12
    refine cw_skip ?_
    refine cw_regF ?_
    refine s_mv rfl rfl ?_
    obtain ⟨n50, hn50, h12⟩ := bnd h12
    replace hn50 := chk_out hn50
    refine p_add rfl rfl rfl hn50 ?_
    refine s_as rfl rfl ?_
    refine Reg.nil ?_
    obtain rfl := Option.some.inj h12
    refine ⟨rfl, n50, ⟨⟨hI31, hI31.adv, hn50.2⟩, rfl⟩, Sub.cons rfl (Sub.cons rfl (Sub.cons rfl (Sub.nil _)))⟩
  ·replace h12 := cdF hc14 h12
   refine cw_exit ?_
   refine exB_same ?_
   obtain rfl := Option.some.inj h12
   obtain rfl := hR13 _ rfl
   refine ⟨rfl, (), ⟨hI9, hI9.adv, rfl⟩, Sub.nil _⟩
 ·skip
  rintro _ w3 ⟨hI4, hA5, rfl⟩
  replace h := elimL h
  refine cw_seq (cw_regF ?_)
  refine s_as rfl rfl ?_
  refine Reg.nil ?_
  refine cw_ret ?_
  obtain rfl := Option.some.inj h
  refine fin1 Tryz.results18 rfl ?_
  exact ⟨rfl, hI4.kp⟩
end Go.Proofs.YtecmlmngcnionaaGreat
namespace Go.Proofs.YtecmlmngcnionaaGreat
open Go Go.Sx
namespace S
/-- A number put into a list in its order, if it is not there. -/
def putS : List Int → Int → List Int
  | [], n => [n]
  | a :: r, n => if a < n then a :: putS r n else if a = n then a :: r else n :: a :: r
/-- How many at the list's head are less. -/
def lessN (n : Int) : List Int → Nat
  | [] => 0
  | a :: r => if a < n then lessN n r + 1 else 0
theorem lessN_le (n : Int) : ∀ l : List Int, lessN n l ≤ l.length
  | [] => Nat.le_refl _
  | a :: r => by
    unfold lessN
    have := lessN_le n r
    split
    · simp only [List.length_cons]; omega
    · simp
theorem lessN_lt (n : Int) : ∀ (l : List Int) (i : Nat) (y : Int), i < lessN n l → l[i]? = some y → y < n
  | [], i, y, h, _ => by simp [lessN] at h
  | a :: r, i, y, h, hy => by
    unfold lessN at h
    split at h
    · cases i with
      | zero => simp at hy; omega
      | succ i => exact lessN_lt n r i y (by omega) (by simpa using hy)
    · omega
theorem lessN_at (n : Int) : ∀ (l : List Int) (y : Int), l[lessN n l]? = some y → ¬ y < n
  | [], y, h => by simp at h
  | a :: r, y, h => by
    unfold lessN at h
    split at h
    · exact lessN_at n r y (by simpa using h)
    · simp at h; omega
theorem putS_eq (n : Int) : ∀ l : List Int, putS l n = if l[lessN n l]? = some n then l else l.take (lessN n l) ++ [n] ++ l.drop (lessN n l)
  | [] => by simp [putS, lessN]
  | a :: r => by
    have ih := putS_eq n r
    unfold putS lessN
    by_cases h : a < n
    · simp only [h, if_true, ih, List.getElem?_cons_succ, List.take_succ_cons, List.drop_succ_cons]
      split <;> simp
    · simp only [h, if_false]
      by_cases h2 : a = n
      · simp [h2]
      · simp [h2]
theorem p_put (l : List Int) (n : Int) (hl : l.length ≤ 1000000) : P.ref06_put l n = some (putS l n) := by
  unfold P.ref06_put
  have hle := lessN_le n l
  have key : loopM (S := Int) (R := Int) (fun x1 => Option.bind (cond (decide (x1 < (l.length : Int))) (Option.bind (ixo l x1) fun y3 => some (decide (y3 < n))) (some false)) fun x10 => cond x10 (Option.bind (chk .i64 (x1 + 1)) fun n12 => some (.inl n12)) (some (.inr x1))) 0 = some (lessN n l : Int) :=
    loop_seq (lessN n l : Int) (lessN n l) (fun i => (i : Int)) (fun i hi => by
      have hlt : i < l.length := by omega
      have hy := List.getElem?_eq_getElem hlt
      have := lessN_lt n l i _ hi hy
      simp only [lt_cast hlt, condT, ixo_at hy, bindS, decide_eq_true this, chk_nat (i := i) (by omega)]
      rfl) (by
      by_cases h : lessN n l < l.length
      · have hy := List.getElem?_eq_getElem h
        have := lessN_at n l _ hy
        simp only [lt_cast h, condT, ixo_at hy, bindS, decide_eq_false this, condF]
      · have e : decide ((lessN n l : Int) < (l.length : Int)) = false := decide_eq_false (by omega)
        simp only [e, condF, bindS])
  rw [key, bindS, putS_eq]
  have hhi : cutHi l (lessN n l : Int) = some (l.take (lessN n l)) := by unfold cutHi; rw [if_pos ⟨by omega, by omega⟩, Int.toNat_natCast]
  have hlo : cutLo l (lessN n l : Int) = some (l.drop (lessN n l)) := by unfold cutLo; rw [if_pos ⟨by omega, by omega⟩, Int.toNat_natCast]
  have hrest : (Option.bind (Option.bind (cutHi l (lessN n l : Int)) fun l27 => Option.bind (cutLo l (lessN n l : Int)) fun l30 => Option.bind (appo 8 ([] : List Int) l27) fun l38 => Option.bind (appo 8 l38 ([n] : List Int)) fun l55 => Option.bind (appo 8 l55 l30) fun l63 => some l63) fun x75 => some x75) = some (l.take (lessN n l) ++ [n] ++ l.drop (lessN n l)) := by
    rw [hhi, bindS, hlo, bindS, appo_ok (by simp; omega) (by simp; omega), bindS, List.nil_append, appo_ok (by simp; omega) (by simp; omega), bindS, appo_ok (by simp; omega) (by simp; omega), bindS, bindS]
  by_cases h : lessN n l < l.length
  · have hy := List.getElem?_eq_getElem h
    simp only [lt_cast h, condT, ixo_at hy, bindS]
    by_cases e : l[lessN n l] = n
    · rw [decide_eq_true e, condT, if_pos (by rw [hy, e])]
    · rw [decide_eq_false e, condF, if_neg (by rw [hy]; simpa using e)]
      exact hrest
  · have e : decide ((lessN n l : Int) < (l.length : Int)) = false := decide_eq_false (by omega)
    simp only [e, condF, bindS]
    rw [if_neg (by rw [List.getElem?_eq_none (by omega)]; simp)]
    exact hrest
end S
end Go.Proofs.YtecmlmngcnionaaGreat
namespace Go.Proofs.YtecmlmngcnionaaGreat
open Go Go.Sx
namespace S
def stepF (s : Span) (out : List Int) (n : Int) : List Int := if s.lo < n ∧ n ≤ s.hi then putS out n else out
theorem putS_len (n : Int) : ∀ l : List Int, (putS l n).length ≤ l.length + 1
  | [] => by simp [putS]
  | a :: r => by
    unfold putS
    have := putS_len n r
    split
    · simp only [List.length_cons]; omega
    · split <;> simp
theorem stepF_len (s : Span) (out : List Int) (n : Int) : (stepF s out n).length ≤ out.length + 1 := by
  unfold stepF
  have := putS_len n out
  split <;> omega
theorem foldF_len (s : Span) : ∀ (l out : List Int), (l.foldl (stepF s) out).length ≤ out.length + l.length
  | [], out => by simp
  | n :: l, out => by
    have h1 := foldF_len s l (stepF s out n)
    have h2 := stepF_len s out n
    simp only [List.foldl_cons, List.length_cons]; omega
theorem fold_succ {α β : Type} {f : β → α → β} {l : List α} {i : Nat} {y : α} {b : β} (h : l[i]? = some y) : (l.take (i + 1)).foldl f b = f ((l.take i).foldl f b) y := by
  simp [List.take_add_one, h]
def nodeF (trait : Int) (s : Span) (out : List Int) (n : Node) : List Int := if n.trait = trait then stepF s out n.cut else out
theorem nodeF_len (trait : Int) (s : Span) (out : List Int) (n : Node) : (nodeF trait s out n).length ≤ out.length + 1 := by
  unfold nodeF
  have := stepF_len s out n.cut
  split <;> omega
theorem foldN_len (trait : Int) (s : Span) : ∀ (l : List Node) (out : List Int), (l.foldl (nodeF trait s) out).length ≤ out.length + l.length
  | [], out => by simp
  | n :: l, out => by
    have h1 := foldN_len trait s l (nodeF trait s out n)
    have h2 := nodeF_len trait s out n
    simp only [List.foldl_cons, List.length_cons]; omega
def cardF (trait : Nat) (s : Span) (out : List Int) (c : Card) : List Int := (((c.scales[trait]?).map (·.cuts)).getD []).foldl (stepF s) out
def treeF (trait : Int) (s : Span) (out : List Int) (t : Tree) : List Int := t.nodes.foldl (nodeF trait s) out
def stepsS (m : Model) (trait : Nat) (s : Span) : List Int := m.trees.foldl (treeF trait s) (m.cards.foldl (cardF trait s) [s.lo])
theorem cards_len (trait : Nat) (s : Span) : ∀ (l : List Card) (out : List Int) (t : Int), (∀ c ∈ l, cardOk c t = true) → (l.foldl (cardF trait s) out).length ≤ out.length + 3 * l.length
  | [], out, _, _ => by simp
  | c :: l, out, t, h => by
    have h1 := cards_len trait s l (cardF trait s out c) t fun c hc => h c (List.mem_cons_of_mem _ hc)
    have h2 : (cardF trait s out c).length ≤ out.length + 3 := by
      unfold cardF
      cases hs : c.scales[trait]? with
      | none => simp
      | some sc =>
        have h3 := foldF_len s sc.cuts out
        have h4 := (scaleOk_iff.1 ((cardOk_iff.1 (h c (List.mem_cons_self ..))).2.2.2.2 trait sc hs)).1
        simp only [Option.map_some, Option.getD_some]; omega
    simp only [List.foldl_cons, List.length_cons]; omega
theorem trees_len (trait : Int) (s : Span) : ∀ (l : List Tree) (out : List Int) (t : Int), (∀ c ∈ l, treeOk c t = true) → (l.foldl (treeF trait s) out).length ≤ out.length + 7 * l.length
  | [], out, _, _ => by simp
  | c :: l, out, t, h => by
    have h1 := trees_len trait s l (treeF trait s out c) t fun c hc => h c (List.mem_cons_of_mem _ hc)
    have h2 : (treeF trait s out c).length ≤ out.length + 7 := by
      unfold treeF
      have h3 := foldN_len trait s c.nodes out
      have h4 := (treeOk_iff.1 (h c (List.mem_cons_self ..))).2.2.2.1
      omega
    simp only [List.foldl_cons, List.length_cons]; omega
theorem p_steps (m : Model) (trait : Nat) (s : Span) (hm : modelOk m = true) (ht : (trait : Int) < m.traits) : P.ref06_steps m trait s = some (stepsS m trait s) := by
  obtain ⟨hm1, hm2, hm3, hm4, hm5, hm6, hm7⟩ := modelOk_iff.1 hm
  unfold P.ref06_steps
  have hcl : ∀ i, (((m.cards.take i).foldl (cardF trait s) [s.lo])).length ≤ 1 + 3 * 2 := fun i => by
    have h1 := cards_len trait s (m.cards.take i) [s.lo] m.traits fun c hc => by
      obtain ⟨j, hj⟩ := List.getElem?_of_mem (List.mem_of_mem_take hc)
      exact hm6 j c hj
    have h2 : (m.cards.take i).length ≤ 2 := by rw [List.length_take]; omega
    simp only [List.length_singleton] at h1; omega
  have hl := loop_fold m.cards.length (fun i => (m.cards.take i).foldl (cardF trait s) [s.lo]) (m.cards.foldl (cardF trait s) [s.lo])
    (body := (fun (x17, x18) => cond (decide (x18 < (m.cards.length : Int))) (Option.bind (loopM (S := (List Int) × Int) (R := ((List Int))) (fun (x20, x21) => Option.bind (ixo m.cards x18) fun y22 => Option.bind (ixo y22.scales (trait : Int)) fun y32 => cond (decide (x21 < (y32.cuts.length : Int))) (Option.bind (Option.bind (ixo m.cards x18) fun y44 => Option.bind (ixo y44.scales (trait : Int)) fun y54 => Option.bind (ixo y54.cuts x21) fun y65 => Option.bind (cond (decide (s.lo < y65)) (some (decide (y65 ≤ s.hi))) (some false)) fun x73 => Option.bind (cond x73 (Option.bind (P.ref06_put x20 y65) fun z75 => some z75) (some x20)) fun x82 => some x82) fun x83 => Option.bind (chk .i64 (x21 + 1)) fun n84 => some (.inl (x83, n84))) (some (.inr x20))) (x17, 0)) fun x85 => Option.bind (chk .i64 (x18 + 1)) fun n86 => some (.inl (x85, n86))) (some (.inr x17))))
    (fun i hi => by
      have hy := List.getElem?_eq_getElem hi
      obtain ⟨_, _, _, hk4, hk5⟩ := cardOk_iff.1 (hm6 i _ hy)
      have hts : trait < m.cards[i].scales.length := by omega
      have hsc := List.getElem?_eq_getElem hts
      have hok := (scaleOk_iff.1 (hk5 trait _ hsc)).1
      have hbase := hcl i
      have hin := loop_fold m.cards[i].scales[trait].cuts.length (fun j => (m.cards[i].scales[trait].cuts.take j).foldl (stepF s) ((m.cards.take i).foldl (cardF trait s) [s.lo])) (m.cards[i].scales[trait].cuts.foldl (stepF s) ((m.cards.take i).foldl (cardF trait s) [s.lo]))
        (body := (fun (x20, x21) => Option.bind (ixo m.cards (i : Int)) fun y22 => Option.bind (ixo y22.scales (trait : Int)) fun y32 => cond (decide (x21 < (y32.cuts.length : Int))) (Option.bind (Option.bind (ixo m.cards (i : Int)) fun y44 => Option.bind (ixo y44.scales (trait : Int)) fun y54 => Option.bind (ixo y54.cuts x21) fun y65 => Option.bind (cond (decide (s.lo < y65)) (some (decide (y65 ≤ s.hi))) (some false)) fun x73 => Option.bind (cond x73 (Option.bind (P.ref06_put x20 y65) fun z75 => some z75) (some x20)) fun x82 => some x82) fun x83 => Option.bind (chk .i64 (x21 + 1)) fun n84 => some (.inl (x83, n84))) (some (.inr x20))))
        (fun j hj => by
          have hz := List.getElem?_eq_getElem hj
          have hlen := foldF_len s (m.cards[i].scales[trait].cuts.take j) ((m.cards.take i).foldl (cardF trait s) [s.lo])
          have hj2 : (m.cards[i].scales[trait].cuts.take j).length ≤ 3 := by rw [List.length_take]; omega
          simp only [ixo_at hy, ixo_at hsc, ixo_at hz, bindS, lt_cast hj, condT, chk_nat (i := j) (by omega), p_put _ _ (show ((m.cards[i].scales[trait].cuts.take j).foldl (stepF s) ((m.cards.take i).foldl (cardF trait s) [s.lo])).length ≤ 1000000 by omega)]
          rw [fold_succ hz]
          unfold stepF
          by_cases e1 : s.lo < m.cards[i].scales[trait].cuts[j]
          · by_cases e2 : m.cards[i].scales[trait].cuts[j] ≤ s.hi
            · simp [e1, e2]
            · simp [e1, e2]
          · simp [e1]) (by simp only [ixo_at hy, ixo_at hsc, bindS, not_lt_cast, condF, List.take_length])
      simp only [List.take_zero, List.foldl_nil] at hin
      simp only [lt_cast hi, condT]
      rw [hin, bindS, chk_nat (by omega), bindS, fold_succ hy]
      unfold cardF
      rw [hsc]; rfl) (by simp only [not_lt_cast, condF, List.take_length])
  simp only [List.take_zero, List.foldl_nil] at hl
  rw [hl, bindS]
  have hc0 := hcl m.cards.length
  rw [List.take_length] at hc0
  have htl : ∀ i, (((m.trees.take i).foldl (treeF trait s) (m.cards.foldl (cardF trait s) [s.lo]))).length ≤ 7 + 7 * 2 := fun i => by
    have h1 := trees_len trait s (m.trees.take i) (m.cards.foldl (cardF trait s) [s.lo]) m.traits fun c hc => by
      obtain ⟨j, hj⟩ := List.getElem?_of_mem (List.mem_of_mem_take hc)
      exact hm7 j c hj
    have h2 : (m.trees.take i).length ≤ 2 := by rw [List.length_take]; omega
    omega
  have hl2 := loop_fold m.trees.length (fun i => (m.trees.take i).foldl (treeF trait s) (m.cards.foldl (cardF trait s) [s.lo])) (stepsS m trait s)
    (body := (fun (x88, x89) => cond (decide (x89 < (m.trees.length : Int))) (Option.bind (loopM (S := (List Int) × Int) (R := ((List Int))) (fun (x91, x92) => Option.bind (ixo m.trees x89) fun y93 => cond (decide (x92 < (y93.nodes.length : Int))) (Option.bind (Option.bind (ixo m.trees x89) fun y103 => Option.bind (ixo y103.nodes x92) fun y112 => Option.bind (cond (decide (y112.trait = (trait : Int))) (cond (decide (s.lo < y112.cut)) (some (decide (y112.cut ≤ s.hi))) (some false)) (some false)) fun x134 => Option.bind (cond x134 (Option.bind (P.ref06_put x91 y112.cut) fun z136 => some z136) (some x91)) fun x143 => some x143) fun x144 => Option.bind (chk .i64 (x92 + 1)) fun n145 => some (.inl (x144, n145))) (some (.inr x91))) (x88, 0)) fun x146 => Option.bind (chk .i64 (x89 + 1)) fun n147 => some (.inl (x146, n147))) (some (.inr x88))))
    (fun i hi => by
      have hy := List.getElem?_eq_getElem hi
      obtain ⟨_, _, _, hk4, _⟩ := treeOk_iff.1 (hm7 i _ hy)
      have hbase := htl i
      have hin := loop_fold m.trees[i].nodes.length (fun j => (m.trees[i].nodes.take j).foldl (nodeF trait s) ((m.trees.take i).foldl (treeF trait s) (m.cards.foldl (cardF trait s) [s.lo]))) (m.trees[i].nodes.foldl (nodeF trait s) ((m.trees.take i).foldl (treeF trait s) (m.cards.foldl (cardF trait s) [s.lo])))
        (body := (fun (x91, x92) => Option.bind (ixo m.trees (i : Int)) fun y93 => cond (decide (x92 < (y93.nodes.length : Int))) (Option.bind (Option.bind (ixo m.trees (i : Int)) fun y103 => Option.bind (ixo y103.nodes x92) fun y112 => Option.bind (cond (decide (y112.trait = (trait : Int))) (cond (decide (s.lo < y112.cut)) (some (decide (y112.cut ≤ s.hi))) (some false)) (some false)) fun x134 => Option.bind (cond x134 (Option.bind (P.ref06_put x91 y112.cut) fun z136 => some z136) (some x91)) fun x143 => some x143) fun x144 => Option.bind (chk .i64 (x92 + 1)) fun n145 => some (.inl (x144, n145))) (some (.inr x91))))
        (fun j hj => by
          have hz := List.getElem?_eq_getElem hj
          have hlen := foldN_len trait s (m.trees[i].nodes.take j) ((m.trees.take i).foldl (treeF trait s) (m.cards.foldl (cardF trait s) [s.lo]))
          have hj2 : (m.trees[i].nodes.take j).length ≤ 7 := by rw [List.length_take]; omega
          simp only [ixo_at hy, ixo_at hz, bindS, lt_cast hj, condT, chk_nat (i := j) (by omega), p_put _ _ (show ((m.trees[i].nodes.take j).foldl (nodeF trait s) ((m.trees.take i).foldl (treeF trait s) (m.cards.foldl (cardF trait s) [s.lo]))).length ≤ 1000000 by omega)]
          rw [fold_succ hz]
          unfold nodeF stepF
          by_cases e0 : m.trees[i].nodes[j].trait = (trait : Int)
          · by_cases e1 : s.lo < m.trees[i].nodes[j].cut
            · by_cases e2 : m.trees[i].nodes[j].cut ≤ s.hi
              · simp [e0, e1, e2]
              · simp [e0, e1, e2]
            · simp [e0, e1]
          · simp [e0]) (by simp only [ixo_at hy, bindS, not_lt_cast, condF, List.take_length])
      simp only [List.take_zero, List.foldl_nil] at hin
      simp only [lt_cast hi, condT]
      rw [hin, bindS, chk_nat (by omega), bindS, fold_succ hy]
      rfl) (by simp only [not_lt_cast, condF, List.take_length]; rfl)
  simp only [List.take_zero, List.foldl_nil] at hl2
  rw [hl2, bindS]
end S
end Go.Proofs.YtecmlmngcnionaaGreat
namespace Go.Proofs.YtecmlmngcnionaaGreat
open Go Go.Sx
namespace S
theorem p_delete (s : List Int) (del : Int → Option Bool) (p : Int → Bool) (hf : ∀ y, y ∈ s → del y = some (p y)) (hl : s.length ≤ 1000000) : P.slices_DeleteFunc_65 s del = some (s.filter fun y => !p y) := by
  unfold P.slices_DeleteFunc_65
  rw [p_idx67 s del p hf hl, bindS]
  cases hi : s.findIdx? p with
  | none =>
    have h0 : idx p s = -1 := by simp [idx, hi]
    rw [h0, decide_eq_true rfl, condT]
    have := List.findIdx?_eq_none_iff.1 hi
    rw [List.filter_eq_self.2]
    intro y hy
    simp [this y hy]
  | some i =>
    obtain ⟨hil, hpi, hlt⟩ := List.findIdx?_eq_some_iff_getElem.1 hi
    have h0 : idx p s = (i : Int) := by simp [idx, hi]
    rw [h0, decide_eq_false (by omega), condF, chk_nat (by omega), bindS]
    have hstart : s.take i = (s.take (i + 1)).filter fun y => !p y := by
      have hy := List.getElem?_eq_getElem hil
      rw [List.take_add_one, hy, List.filter_append]
      have h1 : (s.take i).filter (fun y => !p y) = s.take i := by
        rw [List.filter_eq_self]
        intro y hy
        obtain ⟨j, hj⟩ := List.getElem?_of_mem hy
        rw [List.getElem?_take] at hj
        split at hj
        · rename_i hji
          have := hlt j hji
          rw [List.getElem?_eq_getElem (by omega)] at hj
          cases hj
          simpa using this
        · cases hj
      simp [h1, hpi]
    obtain ⟨⟨n, l⟩, g1, g2, g3⟩ := loop_inv2 (body := (fun (x9, x10, x11) => cond (decide (x10 < (x11.length : Int))) (Option.bind (Option.bind (ixo x11 x10) fun y13 => Option.bind (del y13) fun z20 => Option.bind (cond (!z20) (Option.bind (ixo x11 x9) fun y26 => Option.bind (seto x11 x9 y13) fun l33 => Option.bind (chk .i64 (x9 + 1)) fun n37 => some (n37, l33)) (some (x9, x11))) fun (x38, x39) => some (x38, x39)) fun (x40, x41) => Option.bind (chk .i64 (x10 + 1)) fun n42 => some (.inl (x40, n42, x41))) (some (.inr (x9, x11)))))
      (fun t : Int × Int × List Int => ∃ a b : Nat, t.1 = a ∧ t.2.1 = b ∧ a < b ∧ b ≤ s.length ∧ t.2.2.length = s.length ∧ t.2.2.drop b = s.drop b ∧ t.2.2.take a = (s.take b).filter fun y => !p y) (fun t => s.length - t.2.1.toNat)
      (Q := fun r : Int × List Int => r.2.length = s.length ∧ ∃ a : Nat, r.1 = a ∧ a ≤ s.length ∧ r.2.take a = s.filter fun y => !p y)
      (fun ⟨x, y, l⟩ ⟨a, b, h1, h2, h3, h4, h5, h6, h7⟩ => by
        simp only at h1 h2 h5 h6 h7
        subst h1 h2
        by_cases hb : b < s.length
        · left
          have hbl : b < l.length := by omega
          have hy : l[b]? = some s[b] := by
            have := congrArg (fun z => z[0]?) h6
            simp only [List.getElem?_drop, Nat.add_zero] at this
            rw [this, List.getElem?_eq_getElem hb]
          have hsb := List.getElem?_eq_getElem hb
          have hal : l[a]? = some l[a] := List.getElem?_eq_getElem (by omega)
          have hset : seto l (a : Int) s[b] = some (l.set a s[b]) := by unfold seto; rw [if_pos ⟨by omega, by omega⟩, Int.toNat_natCast]
          have hlt2 : decide ((b : Int) < (l.length : Int)) = true := lt_cast hbl
          simp only [hlt2, condT, ixo_at hy, bindS, hf s[b] (List.getElem_mem hb), chk_nat (i := b) (by omega), chk_nat (i := a) (by omega)]
          have htake : (s.take (b + 1)).filter (fun y => !p y) = (s.take b).filter (fun y => !p y) ++ (if p s[b] then [] else [s[b]]) := by
            rw [List.take_add_one, hsb, List.filter_append]
            cases hp : p s[b] <;> simp [hp]
          cases hp : p s[b] with
          | true =>
            refine ⟨((a : Int), (b : Int) + 1, l), by simp only [notT, condF, bindS], ⟨a, b + 1, rfl, by simp, by omega, by omega, h5, ?_, ?_⟩, by simp only; omega⟩
            · show l.drop (b + 1) = s.drop (b + 1)
              rw [← List.drop_drop, h6, List.drop_drop]
            · show l.take a = _
              rw [htake, hp, h7]; simp
          | false =>
            refine ⟨((a : Int) + 1, (b : Int) + 1, l.set a s[b]), by simp only [notF, condT, ixo_at hal, hset, bindS], ⟨a + 1, b + 1, by simp, by simp, by omega, by omega, by simp [h5], ?_, ?_⟩, by simp only; omega⟩
            · show (l.set a s[b]).drop (b + 1) = s.drop (b + 1)
              rw [List.drop_set_of_lt (by omega), ← List.drop_drop, h6, List.drop_drop]
            · show (l.set a s[b]).take (a + 1) = _
              rw [htake, hp, ← h7, List.take_add_one]
              have hse : (l.set a s[b])[a]? = some s[b] := by rw [List.getElem?_set_self (by omega)]
              rw [hse]
              have hts : (l.set a s[b]).take a = l.take a := by
                apply List.ext_getElem?
                intro k
                rw [List.getElem?_take, List.getElem?_take]
                split
                · rw [List.getElem?_set_ne (by omega)]
                · rfl
              rw [hts]; simp
        · right
          have hbe : b = s.length := by omega
          have e1 : decide ((b : Int) < (l.length : Int)) = false := decide_eq_false (by omega)
          refine ⟨((a : Int), l), by simp only [e1, condF], h5, a, rfl, by omega, ?_⟩
          show l.take a = _
          rw [h7, hbe, List.take_length]) ((i : Int), (i : Int) + 1, s) ⟨i, i + 1, rfl, by simp, by omega, by omega, rfl, rfl, hstart⟩
    obtain ⟨a, ha, hal, hta⟩ := g3
    simp only at ha hta g2
    subst ha
    rw [g1]
    simp only [bindS]
    have hcl : cutLo l (a : Int) = some (l.drop a) := by unfold cutLo; rw [if_pos ⟨by omega, by omega⟩, Int.toNat_natCast]
    rw [hcl, bindS, Int.toNat_natCast]
    have hlen : (l.take a ++ List.replicate (l.drop a).length (0 : Int)).length = s.length := by simp; omega
    have hch : cutHi (l.take a ++ List.replicate (l.drop a).length (0 : Int)) (a : Int) = some ((l.take a ++ List.replicate (l.drop a).length (0 : Int)).take a) := by unfold cutHi; rw [if_pos ⟨by omega, by omega⟩, Int.toNat_natCast]
    rw [hch, bindS]
    congr 1
    rw [List.take_append_of_le_length (by rw [List.length_take]; omega), List.take_take, Nat.min_self, hta]
end S
end Go.Proofs.YtecmlmngcnionaaGreat
namespace Go.Proofs.YtecmlmngcnionaaGreat
open Go Go.Sx
namespace S
/-- All choices of one of each list, the last list's first. -/
def prodL : List (List Int) → List (List Int)
  | [] => [[]]
  | l :: r => l.flatMap fun v => (prodL r).map (v :: ·)
/-- The next choice. -/
def nx : List Int → List (List Int) → Option (List Int)
  | i :: is, l :: ls => match nx is ls with
    | some is' => some (i :: is')
    | none => if i + 1 < (l.length : Int) then some ((i + 1) :: List.replicate is.length 0) else none
  | _, _ => none
def vals : List Int → List (List Int) → List Int
  | i :: is, l :: ls => (l[i.toNat]?).getD 0 :: vals is ls
  | _, _ => []
/-- The choices that come after one. -/
def aft : List Int → List (List Int) → List (List Int)
  | i :: is, l :: ls => (aft is ls).map ((l[i.toNat]?).getD 0 :: ·) ++ (l.drop (i.toNat + 1)).flatMap fun v => (prodL ls).map (v :: ·)
  | _, _ => []
def okAt : List Int → List (List Int) → Prop
  | i :: is, l :: ls => 0 ≤ i ∧ i < (l.length : Int) ∧ okAt is ls
  | [], [] => True
  | _, _ => False
theorem okAt_len : ∀ {a : List Int} {ls : List (List Int)}, okAt a ls → a.length = ls.length
  | [], [], _ => rfl
  | _ :: _, _ :: _, h => by simp [okAt_len h.2.2]
  | [], _ :: _, h => h.elim
  | _ :: _, [], h => h.elim
theorem okAt_get : ∀ {a : List Int} {ls : List (List Int)}, okAt a ls → ∀ (j : Nat) (i : Int) (l : List Int), a[j]? = some i → ls[j]? = some l → 0 ≤ i ∧ i < (l.length : Int)
  | [], [], _, j, i, l, h, _ => by simp at h
  | _ :: _, _ :: _, h, 0, i, l, h1, h2 => by simp at h1 h2; subst h1 h2; exact ⟨h.1, h.2.1⟩
  | _ :: _, _ :: _, h, j + 1, i, l, h1, h2 => okAt_get h.2.2 j i l (by simpa using h1) (by simpa using h2)
  | [], _ :: _, h, _, _, _, _, _ => h.elim
  | _ :: _, [], h, _, _, _, _, _ => h.elim
theorem okAt_zero : ∀ {ls : List (List Int)}, (∀ l ∈ ls, l ≠ []) → okAt (List.replicate ls.length 0) ls
  | [], _ => trivial
  | l :: ls, h => by
    have h1 : l ≠ [] := h l (List.mem_cons_self ..)
    have h2 : 0 < l.length := List.length_pos_iff.2 h1
    rw [List.length_cons, List.replicate_succ]
    exact ⟨by omega, by omega, okAt_zero fun l hl => h l (List.mem_cons_of_mem _ hl)⟩
theorem prodL_zero : ∀ (ls : List (List Int)), (∀ l ∈ ls, l ≠ []) → prodL ls = vals (List.replicate ls.length 0) ls :: aft (List.replicate ls.length 0) ls
  | [], _ => rfl
  | [] :: ls, h => absurd rfl (h [] (List.mem_cons_self ..))
  | (a :: t) :: ls, h => by
    have ih := prodL_zero ls fun l hl => h l (List.mem_cons_of_mem _ hl)
    rw [List.length_cons, List.replicate_succ]
    simp only [prodL, vals, aft, List.flatMap_cons, ih, List.map_cons, List.cons_append]
    simp
theorem nx_step : ∀ (a : List Int) (ls : List (List Int)), okAt a ls → (∀ l ∈ ls, l ≠ []) →
    match nx a ls with | none => aft a ls = [] | some a' => aft a ls = vals a' ls :: aft a' ls ∧ okAt a' ls
  | [], [], _, _ => rfl
  | i :: is, l :: ls, h, hne => by
    obtain ⟨h0, h1, h2⟩ := h
    have hne' : ∀ l ∈ ls, l ≠ [] := fun l hl => hne l (List.mem_cons_of_mem _ hl)
    have ih := nx_step is ls h2 hne'
    unfold nx
    cases hn : nx is ls with
    | some is' =>
      rw [hn] at ih
      simp only at ih ⊢
      refine ⟨?_, h0, h1, ih.2⟩
      simp only [aft, vals, ih.1, List.map_cons, List.cons_append]
    | none =>
      rw [hn] at ih
      simp only at ih ⊢
      by_cases hi : i + 1 < (l.length : Int)
      · rw [if_pos hi]
        simp only
        have hlt : i.toNat + 1 < l.length := by omega
        have e1 : (i + 1).toNat = i.toNat + 1 := by omega
        have hd : l.drop (i.toNat + 1) = l[i.toNat + 1] :: l.drop (i.toNat + 1 + 1) := List.drop_eq_getElem_cons hlt
        have hz := prodL_zero ls hne'
        have hl : is.length = ls.length := okAt_len h2
        refine ⟨?_, by omega, by omega, by rw [hl]; exact okAt_zero hne'⟩
        simp only [aft, vals, ih, List.map_nil, List.nil_append, hd, List.flatMap_cons, e1]
        rw [hz, hl, List.map_cons, List.cons_append, List.getElem?_eq_getElem hlt]
        rfl
      · rw [if_neg hi]
        simp only
        have : l.drop (i.toNat + 1) = [] := List.drop_eq_nil_of_le (by omega)
        simp only [aft, ih, this, List.map_nil, List.nil_append, List.flatMap_nil]
  | [], _ :: _, h, _ => h.elim
  | _ :: _, [], h, _ => h.elim
theorem nx_pre : ∀ (j : Nat) (a : List Int) (ls : List (List Int)) (s : List Int), a.length = ls.length → j ≤ a.length → nx (a.drop j) (ls.drop j) = some s → nx a ls = some (a.take j ++ s)
  | 0, a, ls, s, _, _, h => by simpa using h
  | j + 1, [], _, _, _, h, _ => by simp at h
  | j + 1, i :: is, [], _, h, _, _ => by simp at h
  | j + 1, i :: is, l :: ls, s, hl, hj, h => by
    have := nx_pre j is ls s (by simpa using hl) (by simpa using hj) (by simpa using h)
    unfold nx
    rw [this]; simp
theorem nx_cons {j : Nat} {a : List Int} {ls : List (List Int)} {i : Int} {l : List Int} (hi : a[j]? = some i) (hl : ls[j]? = some l) (hn : nx (a.drop (j + 1)) (ls.drop (j + 1)) = none) :
    nx (a.drop j) (ls.drop j) = if i + 1 < (l.length : Int) then some ((i + 1) :: List.replicate (a.length - (j + 1)) 0) else none := by
  have h1 : a.drop j = i :: a.drop (j + 1) := by
    have h3 := List.getElem?_eq_getElem (get_lt hi)
    rw [hi] at h3
    rw [List.drop_eq_getElem_cons (get_lt hi)]; congr 1; exact (Option.some.inj h3).symm
  have h2 : ls.drop j = l :: ls.drop (j + 1) := by
    have h3 := List.getElem?_eq_getElem (get_lt hl)
    rw [hl] at h3
    rw [List.drop_eq_getElem_cons (get_lt hl)]; congr 1; exact (Option.some.inj h3).symm
  rw [h1, h2]
  unfold nx
  rw [hn]
  simp only [List.length_drop]
theorem nx_end {a : List Int} {ls : List (List Int)} {k : Nat} (h : a.length ≤ k) : nx (a.drop k) (ls.drop k) = none := by
  rw [List.drop_eq_nil_of_le h]
  cases ls.drop k <;> rfl
/-- What one stage of the odometer leaves, where the lists behind it are through. -/
def atK (a : List Int) (k : Nat) : List Int := a.take k ++ List.replicate (a.length - k) 0
theorem atK_len {a : List Int} {k : Nat} (h : k ≤ a.length) : (atK a k).length = a.length := by simp [atK]; omega
theorem atK_get {a : List Int} {j : Nat} {i : Int} (h : a[j]? = some i) : (atK a (j + 1))[j]? = some i := by
  unfold atK
  have := get_lt h
  rw [List.getElem?_append_left (by rw [List.length_take]; omega), List.getElem?_take, if_pos (by omega), h]
theorem atK_set {a : List Int} {j : Nat} {n : Int} (h : j < a.length) : (atK a (j + 1)).set j n = a.take j ++ n :: List.replicate (a.length - (j + 1)) 0 := by
  unfold atK
  rw [List.set_append_left _ _ (by rw [List.length_take]; omega)]
  have : (a.take (j + 1)).set j n = a.take j ++ [n] := by
    apply List.ext_getElem?
    intro k
    simp only [List.getElem?_set, List.getElem?_take, List.getElem?_append, List.length_take]
    grind
  rw [this]; simp
theorem atK_zero {a : List Int} {j : Nat} (h : j < a.length) : (atK a (j + 1)).set j 0 = atK a j := by
  rw [atK_set h]
  unfold atK
  congr 1
  rw [show a.length - j = (a.length - (j + 1)) + 1 by omega, List.replicate_succ]
theorem atK_all {a : List Int} {k : Nat} (h : a.length ≤ k) : atK a k = a := by
  unfold atK
  rw [List.take_of_length_le h, show a.length - k = 0 by omega]; simp
theorem vals_len : ∀ {a : List Int} {ls : List (List Int)}, a.length = ls.length → (vals a ls).length = a.length
  | [], [], _ => rfl
  | _ :: _, _ :: _, h => by simp [vals, vals_len (Nat.succ.inj h)]
  | [], _ :: _, h => by simp at h
  | _ :: _, [], h => by simp at h
theorem vals_get : ∀ {a : List Int} {ls : List (List Int)} {j : Nat} {i : Int} {l : List Int}, a[j]? = some i → ls[j]? = some l → (vals a ls)[j]? = some ((l[i.toNat]?).getD 0)
  | [], _, _, _, _, h, _ => by simp at h
  | _ :: _, [], _, _, _, _, h => by simp at h
  | i :: is, l :: ls, 0, _, _, h1, h2 => by simp at h1 h2; subst h1 h2; simp [vals]
  | i :: is, l :: ls, j + 1, _, _, h1, h2 => by simpa [vals] using vals_get (a := is) (ls := ls) (j := j) (by simpa using h1) (by simpa using h2)
end S
end Go.Proofs.YtecmlmngcnionaaGreat
namespace Go.Proofs.YtecmlmngcnionaaGreat
open Go Go.Sx
namespace S
/-- The first n numbers without those that follow one like them. -/
def ddn (s : List Int) : Nat → List Int
  | 0 => []
  | n + 1 => if 0 < n ∧ s[n - 1]? = s[n]? then ddn s n else ddn s n ++ (s[n]?).toList
theorem ddn_same {s : List Int} {n : Nat} {y : Int} (hn : 0 < n) (h1 : s[n - 1]? = some y) (h2 : s[n]? = some y) : ddn s (n + 1) = ddn s n := by
  simp [ddn, hn, h1, h2]
theorem ddn_new {s : List Int} {n : Nat} {x y : Int} (h1 : s[n - 1]? = some x) (h2 : s[n]? = some y) (h : y ≠ x) : ddn s (n + 1) = ddn s n ++ [y] := by
  have : ¬ (x = y) := fun e => h e.symm
  simp [ddn, h1, h2, this]
theorem ddn_take {s : List Int} : ∀ (n : Nat), n ≤ s.length → (∀ j : Nat, j + 1 < n → ∀ c d, s[j]? = some c → s[j + 1]? = some d → c ≠ d) → ddn s n = s.take n
  | 0, _, _ => by simp [ddn]
  | n + 1, hn, h => by
    have ih := ddn_take n (by omega) fun j hj => h j (by omega)
    have hy : s[n]? = some s[n] := List.getElem?_eq_getElem (by omega)
    unfold ddn
    have hne : ¬ (0 < n ∧ s[n - 1]? = s[n]?) := by
      rintro ⟨h0, h1⟩
      have hx : s[n - 1]? = some s[n - 1] := List.getElem?_eq_getElem (by omega)
      rw [hx, hy] at h1
      exact h (n - 1) (by omega) _ _ hx (by rw [show n - 1 + 1 = n by omega]; exact hy) (Option.some.inj h1)
    rw [if_neg hne, ih, List.take_add_one]
theorem ddn_mem {s : List Int} {x : Int} : ∀ (n : Nat), x ∈ ddn s n ↔ x ∈ s.take n
  | 0 => by simp [ddn]
  | n + 1 => by
    have ih := ddn_mem (s := s) (x := x) n
    unfold ddn
    rw [List.take_add_one, List.mem_append]
    split
    · rename_i h
      rw [ih]
      constructor
      · exact .inl
      · rintro (h1 | h1)
        · exact h1
        · rw [← h.2] at h1
          cases hp : s[n - 1]? with
          | none => rw [hp] at h1; cases h1
          | some y =>
            rw [hp] at h1
            have : x = y := by simpa using h1
            subst this
            exact List.mem_of_getElem? (i := n - 1) (by rw [List.getElem?_take, if_pos (by omega)]; exact hp)
    · rw [List.mem_append, ih]
theorem ddn_le {s : List Int} (hs : s.Pairwise (· ≤ ·)) {n : Nat} {x y : Int} (hx : x ∈ ddn s (n + 1)) (hy : s[n]? = some y) : x ≤ y := by
  obtain ⟨j, hj⟩ := List.getElem?_of_mem ((ddn_mem _).1 hx)
  rw [List.getElem?_take] at hj
  split at hj
  · rename_i hjn
    rcases Nat.lt_or_ge j n with h1 | h1
    · have h2 := List.pairwise_iff_getElem.1 hs j n (get_lt hj) (get_lt hy) h1
      have h3 := List.getElem?_eq_getElem (get_lt hj)
      have h4 := List.getElem?_eq_getElem (get_lt hy)
      rw [hj] at h3; rw [hy] at h4
      have h3 := Option.some.inj h3
      have h4 := Option.some.inj h4
      omega
    · have : j = n := by omega
      subst this
      rw [hy] at hj; cases hj; exact Int.le_refl _
  · cases hj
theorem ddn_strict {s : List Int} (hs : s.Pairwise (· ≤ ·)) : ∀ (n : Nat), (ddn s n).Pairwise (· < ·)
  | 0 => by simp [ddn]
  | n + 1 => by
    have ih := ddn_strict hs n
    unfold ddn
    split
    · exact ih
    · rename_i h
      cases hy : s[n]? with
      | none => simpa using ih
      | some y =>
        rw [Option.toList_some, List.pairwise_append]
        refine ⟨ih, by simp, fun a ha b hb => ?_⟩
        have : b = y := by simpa using hb
        subst this
        cases n with
        | zero => simp [ddn] at ha
        | succ m =>
          have hl := get_lt hy
          have hm : m < s.length := by omega
          have hx : s[m]? = some s[m] := List.getElem?_eq_getElem hm
          have h1 := ddn_le hs ha hx
          have h2 := List.pairwise_iff_getElem.1 hs m (m + 1) hm hl (by omega)
          have h4 := List.getElem?_eq_getElem hl
          have hy' : s[m + 1] = b := Option.some.inj (h4.symm.trans hy)
          have h3 : s[m] ≠ s[m + 1] := fun e => h ⟨by omega, by simp only [Nat.add_sub_cancel]; rw [hx, h4, e]⟩
          omega
/-- Lists in order, without doubles, that hold the same. -/
theorem strict_ext : ∀ {a b : List Int}, a.Pairwise (· < ·) → b.Pairwise (· < ·) → (∀ x, x ∈ a ↔ x ∈ b) → a = b
  | [], [], _, _, _ => rfl
  | [], y :: b, _, _, h => by have := (h y).2 (List.mem_cons_self ..); cases this
  | x :: a, [], _, _, h => by have := (h x).1 (List.mem_cons_self ..); cases this
  | x :: a, y :: b, ha, hb, h => by
    rw [List.pairwise_cons] at ha hb
    have hxy : x = y := by
      have h1 := (h x).1 (List.mem_cons_self ..)
      have h2 := (h y).2 (List.mem_cons_self ..)
      rcases List.mem_cons.1 h1 with h1 | h1
      · exact h1
      · rcases List.mem_cons.1 h2 with h2 | h2
        · exact h2.symm
        · have := ha.1 y h2
          have := hb.1 x h1
          omega
    subst hxy
    congr 1
    refine strict_ext ha.2 hb.2 fun z => ⟨fun hz => ?_, fun hz => ?_⟩
    · have h1 := ha.1 z hz
      rcases List.mem_cons.1 ((h z).1 (List.mem_cons_of_mem _ hz)) with h2 | h2
      · omega
      · exact h2
    · have h1 := hb.1 z hz
      rcases List.mem_cons.1 ((h z).2 (List.mem_cons_of_mem _ hz)) with h2 | h2
      · omega
      · exact h2
theorem p_compactD (s : List Int) (hl : s.length ≤ 1000000) : P.slices_Compact_68 s = some (ddn s s.length) := by
  unfold P.slices_Compact_68
  by_cases h0 : s.length < 2
  · have e0 : decide ((s.length : Int) < 2) = true := decide_eq_true (by omega)
    rw [e0, condT, ddn_take s.length (Nat.le_refl _) (fun j hj => by omega), List.take_length]
  · have e0 : decide ((s.length : Int) < 2) = false := decide_eq_false (by omega)
    rw [e0, condF]
    obtain ⟨r, h1, h2⟩ := loop_inv2 (body := (fun x2 => cond (decide (x2 < (s.length : Int))) (Option.bind (ixo s x2) fun y4 => Option.bind (chk .i64 (x2 - 1)) fun n11 => Option.bind (ixo s n11) fun y12 => cond (decide (y4 = y12)) (Option.bind (cutLo s x2) fun l23 => Option.bind (loopM (S := Int × Int × (List Int)) (R := (Int × (List Int))) (fun (x26, x27, x28) => Option.bind (cutLo x28 x2) fun l29 => cond (decide (x27 < (l29.length : Int))) (Option.bind (Option.bind (cutLo x28 x2) fun l31 => Option.bind (ixo l31 x27) fun y32 => Option.bind (chk .i64 (x27 - 1)) fun n40 => Option.bind (cutLo x28 x2) fun l41 => Option.bind (ixo l41 n40) fun y42 => Option.bind (cond (!decide (y32 = y42)) (Option.bind (cutLo x28 x2) fun l54 => Option.bind (ixo l54 x27) fun y55 => Option.bind (ixo x28 x26) fun y63 => Option.bind (seto x28 x26 y55) fun l70 => Option.bind (chk .i64 (x26 + 1)) fun n74 => some (n74, l70)) (some (x26, x28))) fun (x75, x76) => some (x75, x76)) fun (x77, x78) => Option.bind (chk .i64 (x27 + 1)) fun n79 => some (.inl (x77, n79, x78))) (some (.inr (x26, x28)))) (x2, 1, s)) fun (x80, x81) => Option.bind (cutLo x81 x80) fun l82 => Option.bind (cutHi (x81.take x80.toNat ++ List.replicate l82.length 0) x80) fun l88 => some (.inr (.inr l88))) (Option.bind (chk .i64 (x2 + 1)) fun n92 => some (.inl n92))) (some (.inr (.inl ())))))
      (fun k : Int => 1 ≤ k ∧ k ≤ s.length ∧ ∀ j : Nat, (j : Int) + 1 < k → ∀ c d, s[j]? = some c → s[j + 1]? = some d → c ≠ d) (fun k => s.length - k.toNat) (Q := fun r : Unit ⊕ List Int => (r = .inl () ∧ s = ddn s s.length) ∨ r = .inr (ddn s s.length))
      (fun k ⟨hk1, hk2, hs⟩ => by
        by_cases hk : k < (s.length : Int)
        · have e1 : decide (k < (s.length : Int)) = true := decide_eq_true hk
          have ha : s[k.toNat]? = some s[k.toNat] := List.getElem?_eq_getElem (by omega)
          have hb : s[(k - 1).toNat]? = some s[(k - 1).toNat] := List.getElem?_eq_getElem (by omega)
          have hc : chk .i64 (k - 1) = some (k - 1) := chk_i64 (by omega)
          have hc2 : chk .i64 (k + 1) = some (k + 1) := chk_i64 (by omega)
          have hj : k.toNat = (k - 1).toNat + 1 := by omega
          simp only [e1, condT, ixo_some (show 0 ≤ k by omega) ha, ixo_some (show 0 ≤ k - 1 by omega) hb, hc, hc2, bindS]
          by_cases e : s[k.toNat] = s[(k - 1).toNat]
          · right
            have e2 : decide (s[k.toNat] = s[(k - 1).toNat]) = true := decide_eq_true e
            have hcut : ∀ l : List Int, l.length = s.length → cutLo l k = some (l.drop k.toNat) := fun l hl => by unfold cutLo; rw [if_pos ⟨by omega, by omega⟩]
            have hd0 : ddn s (k.toNat + 1) = s.take k.toNat := by
              rw [ddn_same (y := s[k.toNat]) (by omega) (by rw [show k.toNat - 1 = (k - 1).toNat by omega, hb, e]) ha]
              exact ddn_take _ (by omega) fun j hj => hs j (by omega)
            simp only [e2, condT, hcut s rfl, bindS]
            obtain ⟨⟨n, l⟩, g1, g2⟩ := loop_inv2 (body := (fun (x26, x27, x28) => Option.bind (cutLo x28 k) fun l29 => cond (decide (x27 < (l29.length : Int))) (Option.bind (Option.bind (cutLo x28 k) fun l31 => Option.bind (ixo l31 x27) fun y32 => Option.bind (chk .i64 (x27 - 1)) fun n40 => Option.bind (cutLo x28 k) fun l41 => Option.bind (ixo l41 n40) fun y42 => Option.bind (cond (!decide (y32 = y42)) (Option.bind (cutLo x28 k) fun l54 => Option.bind (ixo l54 x27) fun y55 => Option.bind (ixo x28 x26) fun y63 => Option.bind (seto x28 x26 y55) fun l70 => Option.bind (chk .i64 (x26 + 1)) fun n74 => some (n74, l70)) (some (x26, x28))) fun (x75, x76) => some (x75, x76)) fun (x77, x78) => Option.bind (chk .i64 (x27 + 1)) fun n79 => some (.inl (x77, n79, x78))) (some (.inr (x26, x28)))))
              (fun t : Int × Int × List Int => t.2.2.length = s.length ∧ k ≤ t.1 ∧ 1 ≤ t.2.1 ∧ t.2.1 ≤ s.length - k ∧ t.1 ≤ k + t.2.1 - 1 ∧ t.2.2.drop (k + t.2.1 - 1).toNat = s.drop (k + t.2.1 - 1).toNat ∧ t.2.2.take t.1.toNat = ddn s (k + t.2.1).toNat) (fun t => s.length - t.2.1.toNat) (Q := fun r : Int × List Int => r.2.length = s.length ∧ k ≤ r.1 ∧ r.1 < s.length ∧ r.2.take r.1.toNat = ddn s s.length)
              (fun ⟨i, j, l⟩ ⟨q1, q2, q3, q4, q5, q6, q7⟩ => by
                simp only at q1 q2 q3 q4 q5 q6 q7
                have hdl : (l.drop k.toNat).length = s.length - k.toNat := by rw [List.length_drop, q1]
                simp only [hcut l q1, bindS]
                by_cases hj2 : j < ((l.drop k.toNat).length : Int)
                · have e3 : decide (j < ((l.drop k.toNat).length : Int)) = true := decide_eq_true hj2
                  have hx : (l.drop k.toNat)[j.toNat]? = some (l.drop k.toNat)[j.toNat] := List.getElem?_eq_getElem (by omega)
                  have hy : (l.drop k.toNat)[(j - 1).toNat]? = some (l.drop k.toNat)[(j - 1).toNat] := List.getElem?_eq_getElem (by omega)
                  have hz : l[i.toNat]? = some l[i.toNat] := List.getElem?_eq_getElem (by omega)
                  have hc3 : chk .i64 (j - 1) = some (j - 1) := chk_i64 (by omega)
                  have hc4 : chk .i64 (j + 1) = some (j + 1) := chk_i64 (by omega)
                  have hc5 : chk .i64 (i + 1) = some (i + 1) := chk_i64 (by omega)
                  have hset : ∀ z, seto l i z = some (l.set i.toNat z) := fun z => by unfold seto; rw [if_pos ⟨by omega, by omega⟩]
                  have hsx : s[(k + j).toNat]? = some (l.drop k.toNat)[j.toNat] := by
                    have := congrArg (fun z => z[1]?) q6
                    simp only [List.getElem?_drop] at this
                    rw [show (k + j).toNat = (k + j - 1).toNat + 1 by omega, ← this, ← hx, List.getElem?_drop, show k.toNat + j.toNat = (k + j - 1).toNat + 1 by omega]
                  have hsy : s[(k + j).toNat - 1]? = some (l.drop k.toNat)[(j - 1).toNat] := by
                    have := congrArg (fun z => z[0]?) q6
                    simp only [List.getElem?_drop, Nat.add_zero] at this
                    rw [show (k + j).toNat - 1 = (k + j - 1).toNat by omega, ← this, ← hy, List.getElem?_drop, show k.toNat + (j - 1).toNat = (k + j - 1).toNat by omega]
                  have en : (k + (j + 1)).toNat = (k + j).toNat + 1 := by omega
                  have em : (k + (j + 1) - 1).toNat = (k + j - 1).toNat + 1 := by omega
                  have hdr : l.drop (k + (j + 1) - 1).toNat = s.drop (k + (j + 1) - 1).toNat := by
                    rw [em, ← List.drop_drop, q6, List.drop_drop]
                  simp only [e3, condT, ixo_some (show 0 ≤ j by omega) hx, ixo_some (show 0 ≤ j - 1 by omega) hy, ixo_some (show 0 ≤ i by omega) hz, hc3, hc4, hc5, hset, bindS]
                  left
                  by_cases e4 : (l.drop k.toNat)[j.toNat] = (l.drop k.toNat)[(j - 1).toNat]
                  · have e5 := decide_eq_true e4
                    refine ⟨(i, j + 1, l), by simp only [e5, notT, condF, bindS], ⟨q1, q2, by simp only; omega, by simp only; omega, by simp only; omega, hdr, ?_⟩, by simp only; omega⟩
                    show l.take i.toNat = ddn s (k + (j + 1)).toNat
                    rw [en, ddn_same (by omega) hsy (by rw [hsx, e4]), q7]
                  · have e5 := decide_eq_false e4
                    refine ⟨(i + 1, j + 1, l.set i.toNat (l.drop k.toNat)[j.toNat]), by simp only [e5, notF, condT, bindS], ⟨by simp only [List.length_set]; omega, by simp only; omega, by simp only; omega, by simp only; omega, by simp only; omega, ?_, ?_⟩, by simp only; omega⟩
                    · show (l.set i.toNat (l.drop k.toNat)[j.toNat]).drop (k + (j + 1) - 1).toNat = _
                      rw [List.drop_set_of_lt (by omega), hdr]
                    · show (l.set i.toNat (l.drop k.toNat)[j.toNat]).take (i + 1).toNat = ddn s (k + (j + 1)).toNat
                      rw [en, ddn_new hsy hsx e4, ← q7, show (i + 1).toNat = i.toNat + 1 by omega, List.take_add_one]
                      have hse : (l.set i.toNat (l.drop k.toNat)[j.toNat])[i.toNat]? = some (l.drop k.toNat)[j.toNat] := by rw [List.getElem?_set_self (by omega)]
                      rw [hse]
                      have hts : (l.set i.toNat (l.drop k.toNat)[j.toNat]).take i.toNat = l.take i.toNat := by
                        apply List.ext_getElem?
                        intro m
                        rw [List.getElem?_take, List.getElem?_take]
                        split
                        · rw [List.getElem?_set_ne (by omega)]
                        · rfl
                      rw [hts]; rfl
                · have e3 : decide (j < ((l.drop k.toNat).length : Int)) = false := decide_eq_false hj2
                  right
                  refine ⟨(i, l), by simp only [e3, condF], q1, q2, by simp only; omega, ?_⟩
                  show l.take i.toNat = _
                  rw [q7, show (k + j).toNat = s.length by omega]) (k, 1, s) ⟨rfl, by simp only; omega, by simp only; omega, by simp only; omega, by simp only; omega, rfl, by simp only; rw [show (k + 1).toNat = k.toNat + 1 by omega, hd0]⟩
            simp only at g2
            obtain ⟨g2, g3, g4, g5⟩ := g2
            rw [g1]
            simp only [bindS]
            have hcl : cutLo l n = some (l.drop n.toNat) := by unfold cutLo; rw [if_pos ⟨by omega, by omega⟩]
            rw [hcl, bindS]
            have hlen : (l.take n.toNat ++ List.replicate (l.drop n.toNat).length (0 : Int)).length = s.length := by simp; omega
            have hch : cutHi (l.take n.toNat ++ List.replicate (l.drop n.toNat).length (0 : Int)) n = some ((l.take n.toNat ++ List.replicate (l.drop n.toNat).length (0 : Int)).take n.toNat) := by unfold cutHi; rw [if_pos ⟨by omega, by omega⟩]
            rw [hch, bindS]
            refine ⟨_, rfl, .inr ?_⟩
            rw [List.take_append_of_le_length (by rw [List.length_take]; omega), List.take_take, Nat.min_self, g5]
          · left
            have e2 : decide (s[k.toNat] = s[(k - 1).toNat]) = false := decide_eq_false e
            refine ⟨k + 1, by simp only [e2, condF], ⟨by omega, by omega, fun j hj2 c d hc hd => ?_⟩, by omega⟩
            by_cases h9 : (j : Int) + 1 < k
            · exact hs j h9 c d hc hd
            · have : j = (k - 1).toNat := by omega
              subst this
              rw [hb] at hc; rw [← hj, ha] at hd
              cases hc; cases hd
              exact fun h => e h.symm
        · have e1 : decide (k < (s.length : Int)) = false := decide_eq_false hk
          right
          refine ⟨.inl (), by simp only [e1, condF], .inl ⟨rfl, ?_⟩⟩
          rw [ddn_take s.length (Nat.le_refl _) (fun j hj => hs j (by omega)), List.take_length]) 1 ⟨by omega, by omega, fun j hj => by omega⟩
    rw [h1, bindS]
    rcases h2 with ⟨rfl, h2⟩ | rfl
    · rw [elimLS, ← h2]
    · rw [elimRS]
end S
end Go.Proofs.YtecmlmngcnionaaGreat
namespace Go.Proofs.YtecmlmngcnionaaGreat
open Go Go.Sx
namespace S
theorem ex_cons {α : Type} {p : α → Prop} {a : α} {l : List α} : (∃ x, x ∈ a :: l ∧ p x) ↔ p a ∨ ∃ x, x ∈ l ∧ p x := by
  constructor
  · rintro ⟨x, h1, h2⟩
    rcases List.mem_cons.1 h1 with rfl | h1
    · exact .inl h2
    · exact .inr ⟨x, h1, h2⟩
  · rintro (h | ⟨x, h1, h2⟩)
    · exact ⟨a, List.mem_cons_self .., h⟩
    · exact ⟨x, List.mem_cons_of_mem _ h1, h2⟩
theorem putS_mem {n x : Int} : ∀ l : List Int, x ∈ putS l n ↔ x ∈ l ∨ x = n
  | [] => by simp [putS]
  | a :: r => by
    have ih := putS_mem (n := n) (x := x) r
    unfold putS
    split
    · simp only [List.mem_cons, ih]
      constructor
      · rintro (h | h | h)
        · exact .inl (.inl h)
        · exact .inl (.inr h)
        · exact .inr h
      · rintro ((h | h) | h)
        · exact .inl h
        · exact .inr (.inl h)
        · exact .inr (.inr h)
    · split
      · rename_i h
        subst h
        constructor
        · exact .inl
        · rintro (h | h)
          · exact h
          · subst h; exact List.mem_cons_self ..
      · rw [List.mem_cons (a := x) (b := n)]
        constructor
        · rintro (h | h)
          · exact .inr h
          · exact .inl h
        · rintro (h | h)
          · exact .inr h
          · exact .inl h
theorem putS_strict {n : Int} : ∀ {l : List Int}, l.Pairwise (· < ·) → (putS l n).Pairwise (· < ·)
  | [], _ => by simp [putS]
  | a :: r, h => by
    have h' := List.pairwise_cons.1 h
    unfold putS
    split
    · rename_i han
      refine List.pairwise_cons.2 ⟨fun x hx => ?_, putS_strict h'.2⟩
      rcases (putS_mem _).1 hx with h1 | h1
      · exact h'.1 x h1
      · subst h1; exact han
    · split
      · exact h
      · refine List.pairwise_cons.2 ⟨fun x hx => ?_, h⟩
        rcases List.mem_cons.1 hx with h1 | h1
        · subst h1; omega
        · have := h'.1 x h1; omega
/-- In order, without doubles; the least value, and of those of which C is so all that lie above it up to the greatest one. -/
def Good (s : Span) (C : Int → Prop) (out : List Int) : Prop := out.Pairwise (· < ·) ∧ ∀ x, x ∈ out ↔ x = s.lo ∨ (C x ∧ s.lo < x ∧ x ≤ s.hi)
theorem Good.iff {s : Span} {C C' : Int → Prop} {out : List Int} (h : Good s C out) (hc : ∀ x, C x ↔ C' x) : Good s C' out := ⟨h.1, fun x => by rw [h.2, hc]⟩
theorem stepF_good {s : Span} {C : Int → Prop} {out : List Int} {n : Int} (h : Good s C out) : Good s (fun x => C x ∨ x = n) (stepF s out n) := by
  unfold stepF
  split
  · rename_i hn
    refine ⟨putS_strict h.1, fun x => ?_⟩
    rw [putS_mem, h.2]
    constructor
    · rintro ((h1 | ⟨h1, h2⟩) | h1)
      · exact .inl h1
      · exact .inr ⟨.inl h1, h2⟩
      · subst h1; exact .inr ⟨.inr rfl, hn⟩
    · rintro (h1 | ⟨h1 | h1, h2⟩)
      · exact .inl (.inl h1)
      · exact .inl (.inr ⟨h1, h2⟩)
      · exact .inr h1
  · rename_i hn
    refine ⟨h.1, fun x => ?_⟩
    rw [h.2]
    constructor
    · rintro (h1 | ⟨h1, h2⟩)
      · exact .inl h1
      · exact .inr ⟨.inl h1, h2⟩
    · rintro (h1 | ⟨h1 | h1, h2⟩)
      · exact .inl h1
      · exact .inr ⟨h1, h2⟩
      · subst h1; exact absurd h2 hn
theorem foldF_good {s : Span} : ∀ (l : List Int) {C : Int → Prop} {out : List Int}, Good s C out → Good s (fun x => C x ∨ x ∈ l) (l.foldl (stepF s) out)
  | [], C, out, h => h.iff fun x => by simp
  | n :: l, C, out, h => (foldF_good l (stepF_good (n := n) h)).iff fun x => by simp only [List.mem_cons, or_assoc]
theorem foldN_good {s : Span} {trait : Int} : ∀ (l : List Node) {C : Int → Prop} {out : List Int}, Good s C out → Good s (fun x => C x ∨ ∃ n ∈ l, n.trait = trait ∧ x = n.cut) (l.foldl (nodeF trait s) out)
  | [], C, out, h => h.iff fun x => by simp
  | n :: l, C, out, h => by
    have h1 : Good s (fun x => C x ∨ (n.trait = trait ∧ x = n.cut)) (nodeF trait s out n) := by
      unfold nodeF
      split
      · rename_i e; exact (stepF_good (n := n.cut) h).iff fun x => by simp [e]
      · rename_i e; exact h.iff fun x => by simp [e]
    exact (foldN_good l h1).iff fun x => by simp only [ex_cons, or_assoc]
theorem foldC_good {s : Span} {trait : Nat} : ∀ (l : List Card) {C : Int → Prop} {out : List Int}, Good s C out → Good s (fun x => C x ∨ ∃ c ∈ l, ∃ sc, c.scales[trait]? = some sc ∧ x ∈ sc.cuts) (l.foldl (cardF trait s) out)
  | [], C, out, h => h.iff fun x => by simp
  | c :: l, C, out, h => by
    have h1 : Good s (fun x => C x ∨ (∃ sc, c.scales[trait]? = some sc ∧ x ∈ sc.cuts)) (cardF trait s out c) := by
      unfold cardF
      refine (foldF_good _ h).iff fun x => ?_
      cases c.scales[trait]? with
      | none => simp
      | some sc => simp
    exact (foldC_good l h1).iff fun x => by simp only [ex_cons, or_assoc]
theorem foldT_good {s : Span} {trait : Int} : ∀ (l : List Tree) {C : Int → Prop} {out : List Int}, Good s C out → Good s (fun x => C x ∨ ∃ t ∈ l, ∃ n ∈ t.nodes, n.trait = trait ∧ x = n.cut) (l.foldl (treeF trait s) out)
  | [], C, out, h => h.iff fun x => by simp
  | t :: l, C, out, h => by
    have h1 : Good s (fun x => C x ∨ ∃ n ∈ t.nodes, n.trait = trait ∧ x = n.cut) (treeF trait s out t) := foldN_good _ h
    exact (foldT_good l h1).iff fun x => by simp only [ex_cons, or_assoc]
/-- The cuts of a trait. -/
def CutOf (m : Model) (trait : Nat) (x : Int) : Prop := (∃ c ∈ m.cards, ∃ sc, c.scales[trait]? = some sc ∧ x ∈ sc.cuts) ∨ ∃ t ∈ m.trees, ∃ n ∈ t.nodes, n.trait = (trait : Int) ∧ x = n.cut
theorem stepsS_good (m : Model) (trait : Nat) (s : Span) : Good s (CutOf m trait) (stepsS m trait s) := by
  have h0 : Good s (fun _ => False) [s.lo] := ⟨by simp, fun x => by simp⟩
  exact (foldT_good m.trees (foldC_good m.cards h0)).iff fun x => by simp [CutOf]
/-- What the program makes of the cuts: in order, without doubles. -/
theorem stand_good (s : Span) (C : Int → Prop) (l : List Int) (hs : s.lo ≤ s.hi) (hl : ∀ x, x ∈ l ↔ x = s.lo ∨ C x) (r : List Int) (hr : r = (l.filter fun n => decide (s.lo ≤ n) && decide (n ≤ s.hi)).mergeSort fun a b => decide (a ≤ b)) : Good s C (ddn r r.length) := by
  have hp : r.Pairwise (· ≤ ·) := by
    have := List.pairwise_mergeSort (le := fun a b : Int => decide (a ≤ b)) (by intro a b c h1 h2; simp at h1 h2 ⊢; omega) (by intro a b; simp; omega) (l.filter fun n => decide (s.lo ≤ n) && decide (n ≤ s.hi))
    rw [← hr] at this
    exact this.imp (by simp)
  refine ⟨ddn_strict hp _, fun x => ?_⟩
  rw [ddn_mem, List.take_length, hr, List.mem_mergeSort, List.mem_filter, hl]
  simp only [Bool.and_eq_true, decide_eq_true_eq]
  constructor
  · rintro ⟨h1 | h1, h2, h3⟩
    · exact .inl h1
    · by_cases e : x = s.lo
      · exact .inl e
      · exact .inr ⟨h1, by omega, h3⟩
  · rintro (h1 | ⟨h1, h2, h3⟩)
    · subst h1; exact ⟨.inl rfl, Int.le_refl _, hs⟩
    · exact ⟨.inr h1, by omega, h3⟩
theorem good_one {s : Span} {C : Int → Prop} {a b : List Int} (ha : Good s C a) (hb : Good s C b) : a = b := strict_ext ha.1 hb.1 fun x => by rw [ha.2, hb.2]
end S
end Go.Proofs.YtecmlmngcnionaaGreat
namespace Go.Sx
open Go Go.RowKit Go.Sort
theorem chunks_int {k : IntKind} {M : List Nat} {w : World} : ∀ {cs : List Value} {xs : List Int}, Chunks (intE k) M w cs xs ↔ cs = xs.map (Value.int k) ∧ ∀ x ∈ xs, InK k x
  | cs, [] => ⟨fun h => ⟨h, fun _ hx => by cases hx⟩, fun h => h.1⟩
  | cs, x :: xs => by
    constructor
    · rintro ⟨c, rest, rfl, hR, hr⟩
      obtain ⟨rfl, hx⟩ := intE_R.1 hR
      obtain ⟨rfl, hxs⟩ := chunks_int.1 hr
      refine ⟨rfl, fun y hy => ?_⟩
      rcases List.mem_cons.1 hy with rfl | hy
      · exact hx
      · exact hxs y hy
    · rintro ⟨rfl, hx⟩
      exact ⟨[.int k x], xs.map (Value.int k), rfl, intE_R.2 ⟨rfl, hx x (by simp)⟩, chunks_int.2 ⟨rfl, fun y hy => hx y (List.mem_cons_of_mem _ hy)⟩⟩
theorem put_take {k : IntKind} {ys : List Int} {cur : Array Value} (h : ys.length ≤ cur.size) : (putCells (Value.int k) 0 ys.toArray cur).toList.take ys.length = ys.map (Value.int k) := by
  apply List.ext_getElem?
  intro i
  rw [List.getElem?_take, List.getElem?_map]
  split
  · rename_i hi
    have hc : cur[i]? = some cur[i] := Array.getElem?_eq_getElem (by omega)
    simp only [putCells, Array.getElem?_toList, Array.getElem?_mapIdx, hc, Option.map_some]
    rw [if_pos ⟨by omega, by simpa using hi⟩]
    simp [hi]
  · rename_i hi
    rw [List.getElem?_eq_none (by omega)]; rfl
theorem Own.put {k : IntKind} {e : TypeId} {M : List Nat} {w : World} {g cap n : Nat} {cur : Array Value} {xs ys : List Int} {os : Array Obj} (h2 : w.heap[g]? = some (.cells cur e (0, 0))) (h3 : xs.length ≤ cap + 1) (h4 : cap + 1 ≤ maxLen) (h5 : cur.size = (cap + 1) * 1)
    (hl : ys.length = xs.length) (hy : ∀ y ∈ ys, InK k y) :
    Own (intE k) e 0 M (grow (putRow (Value.int k) (Sort.ahead w n) g 0 ys.toArray) os) (.slice (some ⟨g, 0, none⟩) xs.length (cap + 1)) ys ∧ Kp [g] w (grow (putRow (Value.int k) (Sort.ahead w n) g 0 ys.toArray) os) := by
  have hg := heap_lt h2
  have hold : ∀ j, j < w.heap.size → (grow (putRow (Value.int k) (Sort.ahead w n) g 0 ys.toArray) os).heap[j]? = (w.heap.modify g (onCells (putCells (Value.int k) 0 ys.toArray)))[j]? := fun j hj => by
    rw [heap_grow_old _ _ (by simpa using hj)]; rfl
  refine ⟨.inr ⟨g, cap, putCells (Value.int k) 0 ys.toArray cur, by rw [hl], Nat.zero_le _, ?_, by omega, h4, ?_, ?_⟩, ⟨rfl, rfl, rfl, ?_, fun j hj hm => ?_⟩⟩
  · rw [hold g hg, Array.getElem?_modify, if_pos rfl, h2]; rfl
  · show (putCells (Value.int k) 0 ys.toArray cur).size = (cap + 1) * 1
    rw [← h5]; simp [putCells]
  · show Chunks (intE k) (g :: M) _ ((putCells (Value.int k) 0 ys.toArray cur).toList.take (ys.length * 1)) ys
    rw [Nat.mul_one, put_take (by omega)]
    exact chunks_int.2 ⟨rfl, hy⟩
  · simp
  · rw [hold j hj, Array.getElem?_modify, if_neg (fun e => hm (by simp [e]))]
theorem Own.holds {k : IntKind} {e : TypeId} {M : List Nat} {w : World} {g cap : Nat} {cur : Array Value} {xs : List Int} (h2 : w.heap[g]? = some (.cells cur e (0, 0))) (h3 : xs.length ≤ cap + 1) (h5 : cur.size = (cap + 1) * 1)
    (h6 : Chunks (intE k) M w (cur.toList.take (xs.length * 1)) xs) : Holds (Value.int k) w g 0 xs.toArray := fun j hj => by
  obtain ⟨h7, _⟩ := chunks_int.1 h6
  have hj' : j < xs.length := by simpa using hj
  have h8 := congrArg (fun l => l[j]?) h7
  simp only [Nat.mul_one, List.getElem?_take, hj', if_true, Array.getElem?_toList, List.getElem?_map, List.getElem?_eq_getElem hj', Option.map_some] at h8
  constructor
  · have : w.cell? ⟨g, 0 + j, none⟩ = cur[j]? := by simp [World.cell?, h2]
    rw [this, h8]; simp [hj']
  · simp [World.frozen?, h2]
end Go.Sx
namespace Go.Sx
open Go Go.RowKit Go.ChangeMaps
def mget {α : Type} : List (Int × α) → Int → Option α
  | [], _ => none
  | (a, y) :: r, k => if a = k then some y else mget r k
def mput {α : Type} : List (Int × α) → Int → α → List (Int × α)
  | [], k, z => [(k, z)]
  | (a, y) :: r, k, z => if a = k then (a, z) :: r else (a, y) :: mput r k z
/-- A value that stands for cells: whole, or the one that it is. -/
def Vl {α : Type} (E : Enc α) (ag : Bool) (M : List Nat) (w : World) (v : Value) (x : α) : Prop := ∃ cs, E.R M w cs x ∧ ((ag = true ∧ v = .agg cs.toArray) ∨ (ag = false ∧ cs = [v]))
def EntR {α : Type} (E : Enc α) (ag : Bool) (k : IntKind) (M : List Nat) (w : World) : List MapEntry → List (Int × α) → Prop
  | [], [] => True
  | e :: es, x :: xs => e.key = .int k x.1 ∧ Vl E ag M w e.val x.2 ∧ EntR E ag k M w es xs
  | _, _ => False
theorem Vl.adv {α : Type} {E : Enc α} {ag : Bool} {M M' : List Nat} {w w' : World} {v : Value} {x : α} (ha : Adv M M' w w') (h : Vl E ag M w v x) : Vl E ag M' w' v x := by
  obtain ⟨cs, h1, h2⟩ := h; exact ⟨cs, E.adv h1 ha, h2⟩
theorem Vl.mon {α : Type} {E : Enc α} {ag : Bool} {M M' : List Nat} {w : World} {v : Value} {x : α} (ha : ∀ b ∈ M', b ∈ M ∨ w.heap.size ≤ b) (h : Vl E ag M w v x) : Vl E ag M' w v x := by
  obtain ⟨cs, h1, h2⟩ := h; exact ⟨cs, E.mon ha h1, h2⟩
theorem EntR.adv {α : Type} {E : Enc α} {ag : Bool} {k : IntKind} {M M' : List Nat} {w w' : World} (ha : Adv M M' w w') : ∀ {es : List MapEntry} {xs : List (Int × α)}, EntR E ag k M w es xs → EntR E ag k M' w' es xs
  | [], [], h => h
  | _ :: _, _ :: _, ⟨h1, h2, h3⟩ => ⟨h1, h2.adv ha, EntR.adv ha h3⟩
  | [], _ :: _, h => h.elim
  | _ :: _, [], h => h.elim
theorem EntR.mon {α : Type} {E : Enc α} {ag : Bool} {k : IntKind} {M M' : List Nat} {w : World} (ha : ∀ b ∈ M', b ∈ M ∨ w.heap.size ≤ b) : ∀ {es : List MapEntry} {xs : List (Int × α)}, EntR E ag k M w es xs → EntR E ag k M' w es xs
  | [], [], h => h
  | _ :: _, _ :: _, ⟨h1, h2, h3⟩ => ⟨h1, h2.mon ha, EntR.mon ha h3⟩
  | [], _ :: _, h => h.elim
  | _ :: _, [], h => h.elim
theorem EntR.find {α : Type} {E : Enc α} {ag : Bool} {k k' : IntKind} {M : List Nat} {w : World} {key : Int} : ∀ {es : List MapEntry} {xs : List (Int × α)} (i : Nat), EntR E ag k M w es xs →
    (Instr.findNow (.int k') (.int k key) es i = some none ∧ mget xs key = none ∧ ∀ z, mput xs key z = xs ++ [(key, z)]) ∨
    ∃ j e y, Instr.findNow (.int k') (.int k key) es i = some (some (i + j, e.val)) ∧ mget xs key = some y ∧ Vl E ag M w e.val y ∧ es[j]? = some e ∧ e.key = .int k key ∧ ∀ z, mput xs key z = xs.set j (key, z)
  | [], [], i, _ => .inl ⟨rfl, rfl, fun _ => rfl⟩
  | [], _ :: _, _, h => h.elim
  | _ :: _, [], _, h => h.elim
  | e :: es, (a, y) :: xs, i, ⟨h1, h2, h3⟩ => by
    by_cases ha : a = key
    · subst ha
      refine .inr ⟨0, e, y, ?_, by simp [mget], h2, rfl, h1, fun z => by simp [mput]⟩
      simp [Instr.findNow, Instr.sameNow, h1]
    · have hs : Instr.sameNow (.int k') (.int k key) e.key = some false := by
        have : ¬ key = a := fun h => ha h.symm
        simp [Instr.sameNow, h1, this]
      rcases EntR.find (k' := k') (key := key) (i + 1) h3 with ⟨g1, g2, g3⟩ | ⟨j, e', y', g1, g2, g3, g4, g5, g6⟩
      · refine .inl ⟨by simp [Instr.findNow, hs, g1], by simp [mget, ha, g2], fun z => by simp [mput, ha, g3]⟩
      · refine .inr ⟨j + 1, e', y', ?_, by simp [mget, ha, g2], g3, by simpa using g4, g5, fun z => by simp [mput, ha, g6]⟩
        simp only [Instr.findNow, hs, g1]
        congr 3; omega
theorem EntR.push {α : Type} {E : Enc α} {ag : Bool} {k : IntKind} {M : List Nat} {w : World} {key : Int} {v : Value} {z : α} {c : Nat} (hv : Vl E ag M w v z) : ∀ {es : List MapEntry} {xs : List (Int × α)}, EntR E ag k M w es xs → EntR E ag k M w (es ++ [⟨.int k key, v, c⟩]) (xs ++ [(key, z)])
  | [], [], _ => ⟨rfl, hv, trivial⟩
  | _ :: _, _ :: _, ⟨h1, h2, h3⟩ => ⟨h1, h2, EntR.push hv h3⟩
  | [], _ :: _, h => h.elim
  | _ :: _, [], h => h.elim
theorem EntR.set {α : Type} {E : Enc α} {ag : Bool} {k : IntKind} {M : List Nat} {w : World} {key : Int} {v : Value} {z : α} (hv : Vl E ag M w v z) : ∀ {es : List MapEntry} {xs : List (Int × α)} (j : Nat), EntR E ag k M w es xs → EntR E ag k M w (es.modify j fun e => { e with key := .int k key, val := v }) (xs.set j (key, z))
  | [], [], _, _ => by simp [EntR]
  | _ :: _, _ :: _, 0, ⟨h1, h2, h3⟩ => ⟨rfl, hv, h3⟩
  | _ :: _, _ :: _, j + 1, ⟨h1, h2, h3⟩ => ⟨h1, h2, EntR.set hv j h3⟩
  | [], _ :: _, _, h => h.elim
  | _ :: _, [], _, h => h.elim
/-- A map of one's own. -/
def mapR {α : Type} (E : Enc α) (ag : Bool) (k : IntKind) (b : Nat) (xs : List (Int × α)) : Res where
  fp := [b]
  mu := []
  holds := fun M w => ∃ es c, w.heap[b]? = some (.map es c) ∧ EntR E ag k M w es.toList xs
  adv := fun ha hb h => by
    obtain ⟨es, c, h1, h2⟩ := h
    exact ⟨es, c, (hb b (by simp)).trans h1, h2.adv ha⟩
  lt := fun h x hx => by
    obtain ⟨es, c, h1, _⟩ := h
    have : x = b := by simpa using hx
    subst this; exact heap_lt h1
section
variable {P : Program} {N : Nat} {ops : Array Oper} {q : Md} {rest : List Oper} {ds : List Deferred} {L : Env} {w w0 : World} {A B : Out} {X : Nat → Out} {Z : List PanicEntry → Out} {d : Nat} {ty : TypeId} {pos : String} {af : Array Edge} {Mu M : List Nat} {σ : List Res}
theorem check_int {n : Nat} {em : Bool} {kt : TypeId} {k k' : IntKind} {key : Int} {w : World} (hk : P.underlying kt = some (.int k')) : (Instr.checkKey em (n + 1) kt (.int k key)).run P w = .ok () w := by
  simp [Instr.checkKey, run_underlying hk]
theorem Hp.mapAt {α : Type} {E : Enc α} {ag : Bool} {k : IntKind} {b : Nat} {xs : List (Int × α)} (h : Hp w0 Mu M σ w) (i : Nat) (hi : σ[i]? = some (mapR E ag k b xs)) : ∃ es c, w.heap[b]? = some (.map es c) ∧ EntR E ag k (mm σ M) w es.toList xs := h.all _ (List.mem_of_getElem? hi)
/-- A map that is made. -/
theorem y_mkm {α : Type} (E : Enc α) (ag : Bool) (k : IntKind) {t : TypeId} (hI : Hp w0 Mu M σ w) (hN : Nat.blt d N = true)
    (h : ∀ b w', Hp w0 Mu M (mapR E ag k b ([] : List (Int × α)) :: σ) w' → Adv (mm σ M) (mm (mapR E ag k b ([] : List (Int × α)) :: σ) M) w w' → Reg P N ops .seq rest ds ((d, .map (some b)) :: L) w' A B X Z) :
    Reg P N ops .seq (⟨some d, .makeMap t none, ty, pos, af, none⟩ :: rest) ds L w A B X Z := by
  have hx : Ext w (w.alloc (.map #[] 0)) := Kp.alloc _ _ _
  have hn : ∀ b ∈ (mapR E ag k w.heap.size ([] : List (Int × α))).fp, w.heap.size ≤ b ∧ b < (w.alloc (.map #[] 0)).heap.size := fun b hb => by
    have : b = w.heap.size := by simpa [mapR] using hb
    subst this; exact ⟨Nat.le_refl _, by show w.heap.size < (w.heap.push _).size; simp⟩
  refine Reg.eff (.map (some w.heap.size)) (w.alloc (.map #[] 0)) rfl rfl hN (fun a ha => ?_) (h _ _ (hI.add hx hn rfl ⟨#[], 0, heap_alloc_new w _, trivial⟩) (hI.addA hx hn))
  have hr : (Instr.makeMap t none).run P w = .ok (.map (some w.heap.size)) (w.alloc (.map #[] 0)) := rfl
  simp [execOp, hr]
/-- An entry laid. -/
theorem y_mup (i : Nat) {α : Type} {E : Enc α} {ag : Bool} {k k' : IntKind} {b : Nat} {xs : List (Int × α)} {z : α} {v : Value} {x y u : Operand} {t kt e : TypeId} {key : Int} (hI : Hp w0 Mu M σ w) (hi : σ[i]? = some (mapR E ag k b xs))
    (hx : ev L x = some (.map (some b))) (hy : ev L y = some (.int k key)) (hu : ev L u = some v) (hv : Vl E ag (mm σ M) w v z) (ht : P.underlying t = some (.map kt e)) (hk : P.underlying kt = some (.int k'))
    (h : ∀ w', Hp w0 Mu M (σ.set i (mapR E ag k b (mput xs key z))) w' → Adv (mm σ M) (mm (σ.set i (mapR E ag k b (mput xs key z))) M) w w' → Reg P N ops .seq rest ds L w' A B X Z) :
    Reg P N ops .seq (⟨none, .mapUpdate t x y u, ty, pos, af, none⟩ :: rest) ds L w A B X Z := by
  obtain ⟨es, c, h1, h2⟩ := hI.mapAt i hi
  have hck : ∀ em w, (Instr.checkKey em 10000 kt (.int k key)).run P w = .ok () w := fun em w => check_int (n := 9999) hk
  have key' : ∃ es' c', (Instr.mapUpdate t (.map (some b)) (.int k key) v).run P w = .ok () (setBlock w b (.map es' c')) ∧ EntR E ag k (mm σ M) w es'.toList (mput xs key z) := by
    rcases EntR.find (k' := k') (key := key) 0 h2 with ⟨g1, g2, g3⟩ | ⟨j, e', y', g1, g2, g3, g4, g5, g6⟩
    · refine ⟨es.push ⟨.int k key, v, c⟩, c + 1, ?_, ?_⟩
      · simp [Instr.mapUpdate, run_underlying ht, MapKept.run_getObj_map h1, hck, Instr.findKey, run_underlying hk, g1, MapKept.run_setObj_map _ h1, Result.andThen, setBlock]
      · rw [g3, Array.toList_push]; exact h2.push hv
    · refine ⟨es.modify j fun e => { e with key := .int k key, val := v }, c, ?_, ?_⟩
      · have g4' : es[j]? = some e' := by simpa using g4
        simp [Instr.mapUpdate, run_underlying ht, MapKept.run_getObj_map h1, hck, Instr.findKey, run_underlying hk, g1, g4', g5, Instr.keyThatStays, Instr.sameBits, MapKept.run_setObj_map _ h1, Result.andThen, setBlock]
      · rw [g6, Array.toList_modify]; exact h2.set hv j
  obtain ⟨es', c', hr, hE⟩ := key'
  have hkp : Kp [b] w (setBlock w b (.map es' c')) := ⟨rfl, rfl, rfl, by simp [setBlock], fun j hj hm => heap_setBlock_other h1 _ (by simpa using hm)⟩
  have hn : ∀ b' ∈ (mapR E ag k b (mput xs key z)).fp, b' ∈ (mapR E ag k b xs).fp ∨ w.heap.size ≤ b' := fun b' hb => .inl hb
  refine Reg.sto (setBlock w b (.map es' c')) rfl rfl (fun a ha => ?_) (h _ (hI.upd i hi hkp hn rfl fun M' hM' => ⟨es', c', heap_setBlock_same h1 _, ?_⟩) (hI.updA (r' := mapR E ag k b (mput xs key z)) i hi hkp hn))
  · simp [execOp, ha.eval hx, ha.eval hy, ha.eval hu, hr]
  · have hb : b ∈ mm σ M := mem_mm.2 (.inl ⟨_, List.mem_of_getElem? hi, by simp [mapR]⟩)
    refine (hE.adv ⟨hkp.mono fun x hx => .inl ?_, fun x hx => .inl hx⟩).mon fun x hx => .inl ?_
    · have : x = b := by simpa using hx
      subst this; exact hb
    · rcases hM' x hx with h9 | h9
      · have : x = b := by simpa [mapR] using h9
        subst this; exact hb
      · exact h9
end
end Go.Sx
namespace Go.Sx
open Go Go.RowKit
/-- What an interface's value is, asked with the answer whether it is. -/
theorem s_ta {P : Program} {N : Nat} {ops : Array Oper} {q : Md} {rest : List Oper} {ds : List Deferred} {L : Env} {w : World} {A B : Out} {X : Nat → Out} {Z : List PanicEntry → Out} {d : Nat} {ty : TypeId} {pos : String} {af : Array Edge} {x : Operand} {v r : Value} {t u : TypeId}
    (hx : ev L x = some v) (hr : ∀ w', (Instr.typeAssert v t u true).run P w' = .ok r w') (hN : Nat.blt d N = true) (h : Reg P N ops q rest ds ((d, r) :: L) w A B X Z) :
    Reg P N ops q (⟨some d, .typeAssert x t u true, ty, pos, af, none⟩ :: rest) ds L w A B X Z :=
  Reg.val r rfl rfl hN (fun a ha w' _ => by simp [execOp, ha.eval hx, hr]) h
end Go.Sx
namespace Go.Sx
open Go Go.RowKit
/-- A function value that yields the elements of a slice, one by one: number g, with the slice in the block that it captures. -/
def ItS {α : Type} (E : Enc α) (g : Nat) (M : List Nat) (w : World) (v : Value) (xs : List α) : Prop := ∃ b u, v = .func (.func g) #[] [Value.pointer (some ⟨b, 0, none⟩)].toArray ∧ RdC M w b 0 [u] ∧ RdS E M w u xs
theorem ItS.adv {α : Type} {E : Enc α} {g : Nat} {M M' : List Nat} {w w' : World} {v : Value} {xs : List α} (h : ItS E g M w v xs) (ha : Adv M M' w w') : ItS E g M' w' v xs := by
  obtain ⟨b, u, h1, h2, h3⟩ := h
  exact ⟨b, u, h1, h2.adv ha, h3.adv ha⟩
end Go.Sx
set_option maxRecDepth 20000
namespace Go.Proofs.YtecmlmngcnionaaGreat
open Go Go.Sx Go.RowKit
noncomputable def I70.is83 : I70 → Bool
  | .c83 _ => true
  | .c84 _ => false
def I70.as83 : I70 → Card
  | .c83 y => y
  | .c84 _ => (Card.mk 0 0 [])
theorem I70E_ta83 {M : List Nat} {w : World} {v : Value} {x : I70} (h : I70E.R M w [v] x) : ∃ ds : List Value, CardE.R M w ds (I70.as83 x) ∧ ∀ w', (Instr.typeAssert v 70 83 true).run Tryz.prog w' = .ok (.tuple #[.agg ds.toArray, .bool (I70.is83 x)]) w' := by
  cases x with
  | c83 y =>
    obtain ⟨ds, he, hR⟩ := h
    cases he
    exact ⟨ds, hR, fun w' => by simp [Instr.typeAssert, run_underlying Tryz.underlying83, I70.is83]⟩
  | c84 y =>
    obtain ⟨ds, he, hR⟩ := h
    cases he
    exact ⟨[Value.int IntKind.i64 0, Value.int IntKind.i64 0, Value.slice none 0 0], (CardE_R.2 ⟨Value.slice none 0 0, rfl, by decide, by decide, RdS.nil _ _ _⟩ : CardE.R _ _ _ (Card.mk 0 0 [])), fun w' => by simp [Instr.typeAssert, run_underlying Tryz.underlying83, Tryz.zeroValue83, I70.is83]⟩
noncomputable def I70.is84 : I70 → Bool
  | .c83 _ => false
  | .c84 _ => true
def I70.as84 : I70 → Tree
  | .c83 _ => (Tree.mk 0 [])
  | .c84 y => y
theorem I70E_ta84 {M : List Nat} {w : World} {v : Value} {x : I70} (h : I70E.R M w [v] x) : ∃ ds : List Value, TreeE.R M w ds (I70.as84 x) ∧ ∀ w', (Instr.typeAssert v 70 84 true).run Tryz.prog w' = .ok (.tuple #[.agg ds.toArray, .bool (I70.is84 x)]) w' := by
  cases x with
  | c83 y =>
    obtain ⟨ds, he, hR⟩ := h
    cases he
    exact ⟨[Value.int IntKind.i64 0, Value.slice none 0 0], (TreeE_R.2 ⟨Value.slice none 0 0, rfl, by decide, RdS.nil _ _ _⟩ : TreeE.R _ _ _ (Tree.mk 0 [])), fun w' => by simp [Instr.typeAssert, run_underlying Tryz.underlying84, Tryz.zeroValue84, I70.is84]⟩
  | c84 y =>
    obtain ⟨ds, he, hR⟩ := h
    cases he
    exact ⟨ds, hR, fun w' => by simp [Instr.typeAssert, run_underlying Tryz.underlying84, I70.is84]⟩
end Go.Proofs.YtecmlmngcnionaaGreat
namespace Go.Proofs
open Go.Shelf
def Tryz.laySort_ren : Go.Shelf.Ren := ⟨fun | 5 => 67 | 8 => 40 | 7 => 77 | 19 => 61 | 20 => 62 | 10 => 80 | 11 => 81 | 12 => 82 | 13 => 83 | 14 => 84 | 15 => 85 | 16 => 86 | 17 => 87 | 18 => 88 | 30 => 89 | 31 => 73 | 32 => 74 | 33 => 90 | 34 => 91 | 35 => 63 | 40 => 92 | n => n, fun | 23 => 26 | 25 => 3 | 3 => 3 | 32 => 91 | 22 => 26 | 0 => 0 | 44 => 111 | 46 => 113 | 4 => 4 | 36 => 104 | 35 => 103 | 41 => 108 | 5 => 5 | 9 => 9 | 53 => 118 | 57 => 122 | 63 => 126 | 64 => 127 | n => n, fun | n => n⟩
theorem Tryz.laySort : Go.Proofs.SlLaysM.n5 Tryz.prog Tryz.laySort_ren := {
  mixed := by kernel_rfl
  f5 := ⟨Tryz.f67.name, by decide, Tryz.func67.trans (congrArg some (by kernel_rfl))⟩
  f7 := ⟨Tryz.f77.name, by decide, Tryz.func77.trans (congrArg some (by kernel_rfl))⟩
  f8 := Tryz.func40.trans (congrArg some (by kernel_rfl))
  f10 := ⟨Tryz.f80.name, by decide, Tryz.func80.trans (congrArg some (by kernel_rfl))⟩
  f11 := ⟨Tryz.f81.name, by decide, Tryz.func81.trans (congrArg some (by kernel_rfl))⟩
  f12 := ⟨Tryz.f82.name, by decide, Tryz.func82.trans (congrArg some (by kernel_rfl))⟩
  f13 := ⟨Tryz.f83.name, by decide, Tryz.func83.trans (congrArg some (by kernel_rfl))⟩
  f14 := ⟨Tryz.f84.name, by decide, Tryz.func84.trans (congrArg some (by kernel_rfl))⟩
  f15 := ⟨Tryz.f85.name, by decide, Tryz.func85.trans (congrArg some (by kernel_rfl))⟩
  f16 := ⟨Tryz.f86.name, by decide, Tryz.func86.trans (congrArg some (by kernel_rfl))⟩
  f17 := ⟨Tryz.f87.name, by decide, Tryz.func87.trans (congrArg some (by kernel_rfl))⟩
  f18 := ⟨Tryz.f88.name, by decide, Tryz.func88.trans (congrArg some (by kernel_rfl))⟩
  f19 := Tryz.func61.trans (congrArg some (by kernel_rfl))
  f20 := Tryz.func62.trans (congrArg some (by kernel_rfl))
  f30 := ⟨Tryz.f89.name, by decide, Tryz.func89.trans (congrArg some (by kernel_rfl))⟩
  f31 := Tryz.func73.trans (congrArg some (by kernel_rfl))
  f32 := Tryz.func74.trans (congrArg some (by kernel_rfl))
  f33 := ⟨Tryz.f90.name, by decide, Tryz.func90.trans (congrArg some (by kernel_rfl))⟩
  f34 := ⟨Tryz.f91.name, by decide, Tryz.func91.trans (congrArg some (by kernel_rfl))⟩
  f35 := ⟨Tryz.f63.name, by decide, Tryz.func63.trans (congrArg some (by kernel_rfl))⟩
  f40 := ⟨Tryz.f92.name, by decide, Tryz.func92.trans (congrArg some (by kernel_rfl))⟩
  t0 := Tryz.underlying0
  a0 := Tryz.isAgg0
  z0 := Tryz.sizeOf0
  v0 := Tryz.zeroValue0
  t3 := Tryz.underlying3
  a3 := Tryz.isAgg3
  z3 := Tryz.sizeOf3
  v3 := Tryz.zeroValue3
  t4 := Tryz.underlying4
  a4 := Tryz.isAgg4
  z4 := Tryz.sizeOf4
  v4 := Tryz.zeroValue4
  t5 := Tryz.underlying5
  a5 := Tryz.isAgg5
  z5 := Tryz.sizeOf5
  v5 := Tryz.zeroValue5
  t9 := Tryz.underlying9
  a9 := Tryz.isAgg9
  z9 := Tryz.sizeOf9
  v9 := Tryz.zeroValue9
  t22 := Tryz.underlying26
  a22 := Tryz.isAgg26
  z22 := Tryz.sizeOf26
  v22 := Tryz.zeroValue26
  t23 := Tryz.underlying26
  a23 := Tryz.isAgg26
  z23 := Tryz.sizeOf26
  v23 := Tryz.zeroValue26
  t25 := Tryz.underlying3
  a25 := Tryz.isAgg3
  z25 := Tryz.sizeOf3
  v25 := Tryz.zeroValue3
  t32 := Tryz.underlying91
  a32 := Tryz.isAgg91
  z32 := Tryz.sizeOf91
  v32 := Tryz.zeroValue91
  t35 := Tryz.underlying103
  a35 := Tryz.isAgg103
  z35 := Tryz.sizeOf103
  v35 := Tryz.zeroValue103
  t36 := Tryz.underlying104
  a36 := Tryz.isAgg104
  z36 := Tryz.sizeOf104
  v36 := Tryz.zeroValue104
  t41 := Tryz.underlying108
  a41 := Tryz.isAgg108
  z41 := Tryz.sizeOf108
  v41 := Tryz.zeroValue108
  t44 := Tryz.underlying111
  a44 := Tryz.isAgg111
  z44 := Tryz.sizeOf111
  v44 := Tryz.zeroValue111
  t46 := Tryz.underlying113
  a46 := Tryz.isAgg113
  z46 := Tryz.sizeOf113
  v46 := Tryz.zeroValue113
  t53 := Tryz.underlying118
  a53 := Tryz.isAgg118
  z53 := Tryz.sizeOf118
  v53 := Tryz.zeroValue118
  t57 := Tryz.underlying122
  a57 := Tryz.isAgg122
  z57 := Tryz.sizeOf122
  v57 := Tryz.zeroValue122
  t63 := Tryz.underlying126
  a63 := Tryz.isAgg126
  z63 := Tryz.sizeOf126
  v63 := Tryz.zeroValue126
  t64 := Tryz.underlying127
  a64 := Tryz.isAgg127
  z64 := Tryz.sizeOf127
  v64 := Tryz.zeroValue127 }
end Go.Proofs
namespace Go.Proofs.YtecmlmngcnionaaGreat
open Go Go.Sx Go.RowKit Go.Sort
def P.slices_Sort_67 (x : List Int) : Option (List Int) := if x.length < 4611686018427387904 then some (x.mergeSort fun a b => decide (a ≤ b)) else none
theorem C_slices_Sort_67 {M : List Nat} {w : World} {v_x : Value} (_ : MLt M w) (_ : ∀ b ∈ ob v_x, b ∉ M) {x : List Int} (p_x : Own (intE .i64) 3 0 M w v_x x) {r0 : List Int} (h : P.slices_Sort_67 x = some r0) :
    Calls Tryz.prog 67 (List.toArray [v_x]) w fun e w' => e = .returned (Value.tuple #[]) ∧ (Own (intE .i64) 3 0 M w' v_x r0 ∧ (∀ b ∈ ob v_x, b ∈ ob v_x ∨ w.heap.size ≤ b) ∧ Kp (ob v_x) w w') := by
  obtain ⟨hlen, rfl⟩ : x.length < 4611686018427387904 ∧ (x.mergeSort fun a b => decide (a ≤ b)) = r0 := by
    unfold P.slices_Sort_67 at h
    split at h
    · exact ⟨by assumption, Option.some.inj h⟩
    · cases h
  rcases p_x with ⟨a, rfl, rfl⟩ | ⟨g, cap, cur, rfl, h1, h2, h3, h4, h5, h6⟩
  · have hc := AnyM.slices_Sort_int_none Tryz.laySort a 0 w
    change Calls Tryz.prog 67 _ _ _ at hc
    refine hc.mono ?_
    rintro e w' ⟨rfl, rfl⟩
    exact ⟨rfl, .inl ⟨a, rfl, by simp⟩, fun b hb => .inl hb, Kp.refl _ _⟩
  · have hc := AnyM.slices_Sort_int Tryz.laySort g 0 (cap + 1) x w (Own.holds h2 h3 h5 h6) (heap_lt h2) hlen
    change Calls Tryz.prog 67 _ _ _ at hc
    refine hc.mono ?_
    rintro e w' ⟨rfl, n, os, rfl⟩
    have hp : ∀ y ∈ x.mergeSort fun a b => decide (a ≤ b), InK .i64 y := fun y hy => (chunks_int.1 h6).2 y ((List.mergeSort_perm x _).mem_iff.1 hy)
    obtain ⟨h7, h8⟩ := Own.put (M := M) (n := n) (os := os) h2 h3 h4 h5 (ys := x.mergeSort fun a b => decide (a ≤ b)) (List.length_mergeSort x) hp
    exact ⟨rfl, h7, fun b hb => .inl hb, h8.mono fun b hb => .inl (by simpa [ob] using hb)⟩
end Go.Proofs.YtecmlmngcnionaaGreat
set_option maxRecDepth 20000
namespace Go.Proofs.YtecmlmngcnionaaGreat
open Go Go.Sx Go.RowKit
noncomputable def P.score_unique_int_in1 (n : Int) (so_c : Int → Option Bool) : Option Bool :=
 Option.bind (so_c n) fun z1 => some (!z1)
theorem C_score_unique_int_in1 {M : List Nat} {w : World} (hM : MLt M w) {n : Int} (f_n_0 : InK .i64 n) {v_so_c : Value} {so_c : Int → Option Bool} (f_so_c : ∀ (x0 : Int) (r : Bool) (w1 : World), Kp [] w w1 → InK .i64 x0 → so_c x0 = some r → CallsV Tryz.prog v_so_c [Value.int .i64 x0] w1 fun e w2 => e = .returned (Value.bool r) ∧ Ext w1 w2) {b_so_c : Nat} (c_so_c : RdC M w b_so_c 0 [v_so_c]) {r0 : Bool} (h : P.score_unique_int_in1 n so_c = some r0) :
  Calls Tryz.prog 66 (List.toArray [Value.int .i64 n, Value.pointer (some ⟨b_so_c, 0, none⟩)]) w fun e w' => e = .returned (Value.bool r0) ∧ Ext w w' := by
 have hI := Hp.start (Mu := []) hM
 refine calls_cw Tryz.func66 rfl Tryz.ntmps66 rfl ?_
 refine cw_seq (cw_regF ?_)
 refine s_as rfl rfl ?_
 refine Reg.nil ?_
 refine cw_seq (cw_regF ?_)
 refine s_ld rfl (c_so_c.cells.at 0 rfl) Tryz.isAgg51 rfl ?_
 refine s_mv rfl rfl ?_
 obtain ⟨z1, hz1, h⟩ := bnd h
 refine s_callV rfl rfl rfl ?_
 refine (f_so_c _ _ _ hI.kp f_n_0 hz1).mono ?_
 rintro _ w2 ⟨rfl, e3⟩
 refine ⟨_, rfl, ?_⟩
 have hI5 := hI.ext e3
 refine s_not rfl rfl ?_
 refine s_as rfl rfl ?_
 refine Reg.nil ?_
 refine cw_ret ?_
 obtain rfl := Option.some.inj h
 refine fin1 Tryz.results66 rfl ?_
 exact ⟨rfl, hI5.kp⟩
noncomputable def P.score_unique_43 (l : (List Int)) (so : Int → Option Bool) : Option (List Int) :=
 Option.bind (P.slices_DeleteFunc_65 l (fun x0_ => P.score_unique_int_in1 x0_ so)) fun z7 => Option.bind (P.slices_Sort_67 z7) fun l14 => Option.bind (P.slices_Compact_68 l14) fun z20 => some z20
theorem C_score_unique_43 {M : List Nat} {w : World} {v_l : Value} (hM : MLt M w) (hd : ∀ b ∈ ob v_l, b ∉ M) {l : (List Int)} (p_l : Own (intE .i64) 3 0 M w v_l l) {v_so : Value} {so : Int → Option Bool} (f_so : ∀ (x0 : Int) (r : Bool) (w1 : World), Kp (ob v_l) w w1 → InK .i64 x0 → so x0 = some r → CallsV Tryz.prog v_so [Value.int .i64 x0] w1 fun e w2 => e = .returned (Value.bool r) ∧ Ext w1 w2) (k_so : v_so.cells = [v_so].toArray ∧ v_so.oneCell' = true) {r0 : (List Int)} (h : P.score_unique_43 l so = some r0) :
  Calls Tryz.prog 43 (List.toArray [v_l, v_so]) w fun e w' => ∃ v0_0 : Value, e = .returned (v0_0) ∧ (Own (intE .i64) 3 0 M w' v0_0 r0 ∧ (∀ b ∈ ob v0_0, b ∈ ob v_l ∨ w.heap.size ≤ b) ∧ Kp (ob v_l) w w') := by
 have hI := Hp.startOwn hM hd p_l
 refine calls_cw Tryz.func43 rfl Tryz.ntmps43 rfl ?_
 refine cw_seq (cw_regF ?_)
 refine y_box hI rfl k_so.1 rfl ?_
 intro b1 w2 hI3 x4
 have hC6 := hI3.freezeRow 0 rfl
 have hI5 := hI3.erase 0
 refine s_as rfl rfl ?_
 refine Reg.nil ?_
 refine cw_seq (cw_regF ?_)
 refine s_mv rfl rfl ?_
 refine s_mf rfl rfl ?_
 obtain ⟨z7, hz8, h⟩ := bnd h
 refine s_call rfl Tryz.call65 rfl ?_
 refine (C_slices_DeleteFunc_65 (hI5.erase 0).mlt (hI5.apart 0 rfl) (hI5.lendOwn 0 rfl) (fun a0 r w9 e9 f0 hr => CallsV.ofL Tryz.call66 rfl (C_score_unique_int_in1 ((hI5.lendM 0 rfl).ext e9) f0 (fun c0 r0 w10 e10 g0 hr0 => f_so c0 r0 w10 ((Kp.tail hI5.kp e9 (fun _ hb => .inl hb)).trans (Ext.kp e10)) g0 hr0) (hC6.adv ((Hp.lendA (σ := [ownR (ob v_l) (intE .i64) 3 v_l l]) (M := M) 0 rfl).trans (Adv.lent e9))) hr)) hz8).mono ?_
 rintro _ w9 ⟨v11, rfl, hf12⟩
 refine ⟨_, rfl, ?_⟩
 have hI13 := hI5.took 0 rfl hf12
 refine s_as rfl rfl ?_
 refine Reg.nil ?_
 refine cw_seq (cw_regF ?_)
 refine s_mv rfl rfl ?_
 obtain ⟨l14, hz15, h⟩ := bnd h
 refine s_call rfl Tryz.call67 rfl ?_
 refine (C_slices_Sort_67 (hI13.erase 0).mlt (hI13.apart 0 rfl) (hI13.lendOwn 0 rfl) hz15).mono ?_
 rintro _ w16 ⟨rfl, hf18⟩
 refine ⟨_, rfl, ?_⟩
 have hI19 := hI13.took 0 rfl hf18
 refine Reg.nil ?_
 refine cw_seq (cw_regF ?_)
 refine s_mv rfl rfl ?_
 obtain ⟨z20, hz21, h⟩ := bnd h
 refine s_call rfl Tryz.call68 rfl ?_
 refine (C_slices_Compact_68 (hI19.erase 0).mlt (hI19.apart 0 rfl) (hI19.lendOwn 0 rfl) hz21).mono ?_
 rintro _ w22 ⟨v24, rfl, hf25⟩
 refine ⟨_, rfl, ?_⟩
 have hI26 := hI19.took 0 rfl hf25
 refine s_as rfl rfl ?_
 refine Reg.nil ?_
 refine cw_ret ?_
 obtain rfl := Option.some.inj h
 refine fin1 Tryz.results43 rfl ?_
 exact ⟨_, rfl, (hI26.ownBack 0 rfl)⟩
end Go.Proofs.YtecmlmngcnionaaGreat
set_option maxRecDepth 20000
namespace Go.Proofs.YtecmlmngcnionaaGreat
open Go Go.Sx Go.RowKit
noncomputable def P.slices_Values_42 (s : (List Int)) : Option (List Int) :=
 some s
theorem C_slices_Values_42 {M : List Nat} {w : World} (hM : MLt M w) {s : (List Int)} {v_s_0 : Value} (f_s_0 : RdS (intE .i64) M w v_s_0 s) {r0 : (List Int)} (h : P.slices_Values_42 s = some r0) :
  Calls Tryz.prog 42 (List.toArray [v_s_0]) w fun e w' => ∃ v0_0 : Value, e = .returned (v0_0) ∧ ItS (intE .i64) 64 M w' v0_0 r0 ∧ Ext w w' := by
 have hI := Hp.start (Mu := []) hM
 refine calls_cw Tryz.func42 rfl Tryz.ntmps42 rfl ?_
 refine cw_seq (cw_regF ?_)
 refine y_box hI rfl (RdS.cells1 f_s_0) rfl ?_
 intro b1 w2 hI3 x4
 have hC6 := hI3.freezeRow 0 rfl
 have hI5 := hI3.erase 0
 refine s_as rfl rfl ?_
 refine Reg.nil ?_
 refine cw_seq (cw_regF ?_)
 refine s_mf rfl rfl ?_
 refine s_as rfl rfl ?_
 refine Reg.nil ?_
 refine cw_ret ?_
 obtain rfl := Option.some.inj h
 refine fin1 Tryz.results42 rfl ?_
 exact ⟨_, rfl, ⟨_, _, rfl, hC6.adv (Hp.baseA (σ := [])), (f_s_0.adv hI5.adv).adv (Hp.baseA (σ := []))⟩, hI5.kp⟩
noncomputable def P.score_works_stand (w_ : Works) (trait : Int) (s : Span) : Option (List Int) :=
 Option.bind (loopM (S := (List Int) × Int) (R := ((List Int))) (fun (x17, x18) => cond (decide (x18 < (w_.parts.length : Int))) (Option.bind (Option.bind (ixo w_.parts x18) fun y20 => Option.bind (Option.bind (cond (I70.is83 y20) (Option.bind (ixo ((I70.as83 y20).scales) trait) fun y45 => Option.bind (appo 8 x17 y45.cuts) fun l56 => some l56) (Option.bind (cond (I70.is84 y20) (Option.bind (loopM (S := (List Int) × Int) (R := ((List Int))) (fun (x77, x78) => cond (decide (x78 < (((I70.as84 y20).nodes).length : Int))) (Option.bind (Option.bind (ixo ((I70.as84 y20).nodes) x78) fun y80 => Option.bind (cond (decide (y80.trait = trait)) (Option.bind (appo 8 x77 ([y80.cut] : List Int)) fun l107 => some l107) (some x77)) fun x112 => some x112) fun x113 => Option.bind (chk .i64 (x78 + 1)) fun n114 => some (.inl (x113, n114))) (some (.inr x77))) (x17, 0)) fun x115 => some x115) (some x17)) fun x116 => some x116)) fun x117 => some x117) fun x118 => some x118) fun x119 => Option.bind (chk .i64 (x18 + 1)) fun n120 => some (.inl (x119, n120))) (some (.inr x17))) (([s.lo] : List Int), 0)) fun x121 => Option.bind (P.score_unique_43 x121 (fun x0_ => P.score_works_stand_in1 x0_ (Span.mk s.lo s.hi))) fun z122 => Option.bind (P.slices_Values_42 z122) fun z131 => some z131
theorem C_score_works_stand {M : List Nat} {w : World} (hM : MLt M w) {w_ : Works} {v_w__1 : Value} {v_w__2 : Value} {v_w__4 : Value} (f_w__0 : InK .i64 w_.model.traits) (f_w__1 : RdS CardE M w v_w__1 w_.model.cards) (f_w__2 : RdS TreeE M w v_w__2 w_.model.trees) (f_w__3 : InK .i64 w_.model.need) (f_w__4 : RdS I70E M w v_w__4 w_.parts) {trait : Int} (f_trait_0 : InK .i64 trait) {s : Span} (f_s_0 : InK .i64 s.lo) (f_s_1 : InK .i64 s.hi) {r0 : (List Int)} (h : P.score_works_stand w_ trait s = some r0) :
  Calls Tryz.prog 28 (List.toArray [Value.agg (List.toArray [Value.int .i64 w_.model.traits, v_w__1, v_w__2, Value.int .i64 w_.model.need, v_w__4]), Value.int .i64 trait, Value.agg (List.toArray [Value.int .i64 s.lo, Value.int .i64 s.hi])]) w fun e w' => ∃ v0_0 : Value, e = .returned (v0_0) ∧ ItS (intE .i64) 64 M w' v0_0 r0 ∧ Ext w w' := by
 have hI := Hp.start (Mu := []) hM
 refine calls_cw Tryz.func28 rfl Tryz.ntmps28 rfl ?_
 refine cw_seq (cw_regF ?_)
 refine y_box hI rfl rfl rfl ?_
 intro b1 w2 hI3 x4
 have hC6 := hI3.freezeRow 0 rfl
 have hI5 := hI3.erase 0
 refine y_box hI5 rfl rfl rfl ?_
 intro b7 w8 hI9 x10
 have hC12 := hI9.freezeRow 0 rfl
 have hI11 := hI9.erase 0
 refine s_as rfl rfl ?_
 refine Reg.nil ?_
 refine cw_seq (cw_regF ?_)
 refine s_fa rfl Tryz.underlying57 rfl Tryz.sizeOf3 rfl ?_
 refine s_ld rfl (hC12.cells.at 0 rfl) Tryz.isAgg3 rfl ?_
 refine y_bs (E := (intE .i64)) (xs := [s.lo]) sl26 hI11 rfl rfl (Cls.cons rfl Cls.nil) (Chs.cons ⟨rfl, f_s_0⟩ Chs.nil) rfl rfl ?_
 intro v13 w14 hI15 x16
 refine s_as rfl rfl ?_
 refine Reg.nil ?_
 refine cw_seq (cw_seq (cw_regF ?_))
 refine s_fa rfl Tryz.underlying48 rfl Tryz.sizeOf46 rfl ?_
 refine s_ld rfl ((hC6.adv (x10.trans ((Hp.eraseA (σ := [rowR 57 b7 [Value.int .i64 s.lo, Value.int .i64 s.hi]]) 0).trans x16))).cells.at 4 rfl) Tryz.isAgg46 rfl ?_
 refine s_len rfl (f_w__4.adv hI15.adv) Tryz.underlying46 rfl ?_
 refine s_mv rfl rfl ?_
 refine Reg.nil ?_
 obtain ⟨j17, h18, h⟩ := bnd h
 refine cw_sub (L := [(1, _), (7, _), (18, _), (19, _), (20, _), (5, _)]) (Sub.cons rfl (Sub.cons rfl (Sub.cons rfl (Sub.cons rfl (Sub.cons rfl (Sub.cons rfl (Sub.nil _))))))) ?_
 refine cw_unitD 5 (ι := (List Int) × Value) (fun ⟨x19, v20⟩ => [(7, v20)]) (fun ⟨x19, v20⟩ => fun w21 => Hp w [] M [ownR [] (intE .i64) 3 v20 x19] w21 ∧ Adv (mm [ownR [] (intE .i64) 3 v13 ([s.lo] : List Int)] M) (mm [ownR [] (intE .i64) 3 v20 x19] M) w14 w21 ∧ x19 = j17) ?_ ?_
 ·skip
  refine cw_block ?_
  refine cw_sub (L := [(7, _), (20, _), (1, _), (5, _), (18, _), (19, _)]) (Sub.cons rfl (Sub.cons rfl (Sub.cons rfl (Sub.cons rfl (Sub.cons rfl (Sub.cons rfl (Sub.nil _))))))) ?_
  refine cw_loopM 2 (ι := (List Int) × Int × Value) _ (fun ⟨x24, x26, v25⟩ => [(7, v25), (20, Value.int .i64 x26)]) (fun ⟨x24, x26, v25⟩ => (x24, x26)) (fun ⟨x24, x26, v25⟩ => fun w28 => Hp w [] M [ownR [] (intE .i64) 3 v25 x24] w28 ∧ Adv (mm [ownR [] (intE .i64) 3 v13 ([s.lo] : List Int)] M) (mm [ownR [] (intE .i64) 3 v25 x24] M) w14 w28 ∧ InK .i64 x26) (([s.lo] : List Int), 0, v13) h18 ⟨hI15, (Adv.refl _ _), (by decide)⟩ (Sub.cons rfl (Sub.cons rfl (Sub.cons rfl (Sub.cons rfl (Sub.cons rfl (Sub.cons rfl (Sub.nil _))))))) ?_
  rintro ⟨x24, x26, v25⟩ w28 ⟨hI29, hA30, r27⟩ y31 h32 hR33
  refine cw_seq (cw_regF ?_)
  refine s_lss rfl rfl rfl ?_
  refine Reg.nil ?_
  refine cw_seq ?_
  refine cw_cond rfl (fun hc34 => ?_) (fun hc34 => ?_)
  ·replace h32 := cdT hc34 h32
   refine cw_skip ?_
   obtain ⟨j35, h36, h32⟩ := bnd h32
   refine cw_sub (L := [(7, _), (1, _), (5, _), (18, _), (19, _), (20, _)]) (Sub.cons rfl (Sub.cons rfl (Sub.cons rfl (Sub.cons rfl (Sub.cons rfl (Sub.cons rfl (Sub.nil _))))))) ?_
   refine cw_seqD 1 (ι := (List Int) × Value) (fun ⟨x37, v38⟩ => [(7, v38)]) (fun ⟨x37, v38⟩ => fun w39 => Hp w [] M [ownR [] (intE .i64) 3 v38 x37] w39 ∧ Adv (mm [ownR [] (intE .i64) 3 v25 x24] M) (mm [ownR [] (intE .i64) 3 v38 x37] M) w28 w39 ∧ x37 = j35) ?_ ?_
   ·skip
    refine cw_block ?_
    refine cw_seq (cw_regF ?_)
    obtain ⟨y42, hy42, h36⟩ := bnd h36
    refine p_ia rfl rfl (f_w__4.adv hI29.adv) hy42 Tryz.underlying46 Tryz.sizeOf70 rfl ?_
    intro b43 o44 cs45 hR46 hC47
    obtain ⟨v48, rfl, hf49⟩ := I70E_one hR46
    refine s_ld rfl (hC47.cells.at 0 rfl) Tryz.isAgg70 rfl ?_
    refine s_as rfl rfl ?_
    refine Reg.nil ?_
    refine cw_seq (cw_regF ?_)
    refine s_mv rfl rfl ?_
    refine Reg.nil ?_
    obtain ⟨j50, h51, h36⟩ := bnd h36
    refine cw_sub (L := [(7, _), (24, _), (1, _), (5, _), (18, _), (19, _), (20, _)]) (Sub.cons rfl (Sub.cons rfl (Sub.cons rfl (Sub.cons rfl (Sub.cons rfl (Sub.cons rfl (Sub.cons rfl (Sub.nil _)))))))) ?_
    refine cw_unitD 2 (ι := (List Int) × Value) (fun ⟨x52, v53⟩ => [(7, v53)]) (fun ⟨x52, v53⟩ => fun w54 => Hp w [] M [ownR [] (intE .i64) 3 v53 x52] w54 ∧ Adv (mm [ownR [] (intE .i64) 3 v25 x24] M) (mm [ownR [] (intE .i64) 3 v53 x52] M) w28 w54 ∧ x52 = j50) ?_ ?_
    ·skip
     refine cw_block ?_
     refine cw_seq (cw_regF ?_)
     obtain ⟨ds57, hR58, ht59⟩ := I70E_ta83 hf49
     obtain ⟨v62, rfl, g60, g61, g63⟩ := CardE_R.1 hR58
     refine s_ta rfl ht59 rfl ?_
     refine s_xt rfl rfl rfl ?_
     refine s_xt rfl rfl rfl ?_
     refine Reg.nil ?_
     obtain ⟨j64, h65, h51⟩ := bnd h51
     refine cw_sub (L := [(7, _), (24, _), (26, _), (27, _), (1, _), (5, _), (18, _), (19, _), (20, _)]) (Sub.cons rfl (Sub.cons rfl (Sub.cons rfl (Sub.cons rfl (Sub.cons rfl (Sub.cons rfl (Sub.cons rfl (Sub.cons rfl (Sub.cons rfl (Sub.nil _)))))))))) ?_
     refine cw_unitD 4 (ι := (List Int) × Value) (fun ⟨x66, v67⟩ => [(7, v67)]) (fun ⟨x66, v67⟩ => fun w68 => Hp w [] M [ownR [] (intE .i64) 3 v67 x66] w68 ∧ Adv (mm [ownR [] (intE .i64) 3 v25 x24] M) (mm [ownR [] (intE .i64) 3 v67 x66] M) w28 w68 ∧ x66 = j64) ?_ ?_
     ·skip
      refine cw_cond rfl (fun hc71 => ?_) (fun hc71 => ?_)
      ·replace h65 := cdT hc71 h65
       refine cw_seq (cw_regF ?_)
       refine y_al hI29 Tryz.zeroValue83 rfl rfl ?_
       intro b72 w73 hI74 x75
       refine y_st 0 hI74 rfl rfl rfl rfl Tryz.sizeOf83 rfl rfl (one1 rfl (one1 rfl (one1 (RdS.oneC g63) one0))) ?_
       intro w76 hI77 x78
       have hC80 := hI77.freezeRow 0 rfl
       have hI79 := hI77.erase 0
       refine Reg.nil ?_
       refine cw_regF ?_
       refine s_mv rfl rfl ?_
       refine s_fa rfl Tryz.underlying83 rfl Tryz.sizeOf37 rfl ?_
       refine s_ld rfl (hC80.cells.at 2 rfl) Tryz.isAgg37 rfl ?_
       refine s_mv rfl rfl ?_
       obtain ⟨y81, hy81, h65⟩ := bnd h65
       refine p_ia rfl rfl (g63.adv (x75.trans (x78.trans (Hp.eraseA (σ := [rowR 83 b72 [Value.int .i64 ((I70.as83 y42).weight), Value.int .i64 ((I70.as83 y42).base), v62], ownR [] (intE .i64) 3 v25 x24]) 0)))) hy81 Tryz.underlying37 Tryz.sizeOf41 rfl ?_
       intro b82 o83 cs84 hR85 hC86
       obtain ⟨v87, v89, rfl, hf88, hf90, r91⟩ := ScaleE_R.1 hR85
       refine s_fa rfl Tryz.underlying41 rfl Tryz.sizeOf26 rfl ?_
       refine s_ld rfl (hC86.cells.at 0 rfl) Tryz.isAgg26 rfl ?_
       obtain ⟨l92, hl92, h65⟩ := bnd h65
       obtain ⟨hbl92, el92⟩ := appo_out hl92
       refine y_app 0 sl26 hI79 rfl rfl rfl hf88 hbl92 rfl ?_
       rw [← el92]
       intro v93 w94 hI95 x96
       refine s_as rfl rfl ?_
       refine Reg.nil ?_
       obtain rfl := Option.some.inj h65
       refine ⟨rfl, (l92, v93), ⟨hI95, (x75.trans (x78.trans ((Hp.eraseA (σ := [rowR 83 b72 [Value.int .i64 ((I70.as83 y42).weight), Value.int .i64 ((I70.as83 y42).base), v62], ownR [] (intE .i64) 3 v25 x24]) 0).trans x96))), rfl⟩, Sub.cons rfl (Sub.cons rfl (Sub.cons rfl (Sub.cons rfl (Sub.cons rfl (Sub.cons rfl (Sub.nil _))))))⟩
      ·replace h65 := cdF hc71 h65
       refine cw_seq (cw_regF ?_)
       obtain ⟨ds97, hR98, ht99⟩ := I70E_ta84 hf49
       obtain ⟨v101, rfl, g100, g102⟩ := TreeE_R.1 hR98
       refine s_ta rfl ht99 rfl ?_
       refine s_xt rfl rfl rfl ?_
       refine s_xt rfl rfl rfl ?_
       refine Reg.nil ?_
       obtain ⟨j103, h104, h65⟩ := bnd h65
       refine cw_sub (L := [(7, _), (37, _), (38, _), (1, _), (5, _), (18, _), (19, _), (20, _)]) (Sub.cons rfl (Sub.cons rfl (Sub.cons rfl (Sub.cons rfl (Sub.cons rfl (Sub.cons rfl (Sub.cons rfl (Sub.cons rfl (Sub.nil _))))))))) ?_
       refine cw_unitD 3 (ι := (List Int) × Value) (fun ⟨x105, v106⟩ => [(7, v106)]) (fun ⟨x105, v106⟩ => fun w107 => Hp w [] M [ownR [] (intE .i64) 3 v106 x105] w107 ∧ Adv (mm [ownR [] (intE .i64) 3 v25 x24] M) (mm [ownR [] (intE .i64) 3 v106 x105] M) w28 w107 ∧ x105 = j103) ?_ ?_
       ·skip
        refine cw_cond rfl (fun hc110 => ?_) (fun hc110 => ?_)
        ·replace h104 := cdT hc110 h104
         refine cw_seq (cw_regF ?_)
         refine y_al hI29 Tryz.zeroValue84 rfl rfl ?_
         intro b111 w112 hI113 x114
         refine y_st 0 hI113 rfl rfl rfl rfl Tryz.sizeOf84 rfl rfl (one1 rfl (one1 (RdS.oneC g102) one0)) ?_
         intro w115 hI116 x117
         have hC119 := hI116.freezeRow 0 rfl
         have hI118 := hI116.erase 0
         refine Reg.nil ?_
         refine cw_seq (cw_regF ?_)
         refine s_fa rfl Tryz.underlying84 rfl Tryz.sizeOf42 rfl ?_
         refine s_ld rfl (hC119.cells.at 1 rfl) Tryz.isAgg42 rfl ?_
         refine s_len rfl (g102.adv (x114.trans (x117.trans (Hp.eraseA (σ := [rowR 84 b111 [Value.int .i64 ((I70.as84 y42).weight), v101], ownR [] (intE .i64) 3 v25 x24]) 0)))) Tryz.underlying42 rfl ?_
         refine s_mv rfl rfl ?_
         refine Reg.nil ?_
         obtain ⟨j120, h121, h104⟩ := bnd h104
         refine cw_sub (L := [(7, _), (40, _), (41, _), (42, _), (1, _), (5, _), (18, _), (19, _), (20, _)]) (Sub.cons rfl (Sub.cons rfl (Sub.cons rfl (Sub.cons rfl (Sub.cons rfl (Sub.cons rfl (Sub.cons rfl (Sub.cons rfl (Sub.cons rfl (Sub.nil _)))))))))) ?_
         refine cw_unitD 4 (ι := (List Int) × Value) (fun ⟨x122, v123⟩ => [(7, v123)]) (fun ⟨x122, v123⟩ => fun w124 => Hp w [] M [ownR [] (intE .i64) 3 v123 x122] w124 ∧ Adv (mm [ownR [] (intE .i64) 3 v25 x24] M) (mm [ownR [] (intE .i64) 3 v123 x122] M) w115 w124 ∧ x122 = j120) ?_ ?_
         ·skip
          refine cw_block ?_
          refine cw_sub (L := [(7, _), (42, _), (1, _), (5, _), (18, _), (19, _), (20, _), (40, _), (41, _)]) (Sub.cons rfl (Sub.cons rfl (Sub.cons rfl (Sub.cons rfl (Sub.cons rfl (Sub.cons rfl (Sub.cons rfl (Sub.cons rfl (Sub.cons rfl (Sub.nil _)))))))))) ?_
          refine cw_loopM 2 (ι := (List Int) × Int × Value) _ (fun ⟨x127, x129, v128⟩ => [(7, v128), (42, Value.int .i64 x129)]) (fun ⟨x127, x129, v128⟩ => (x127, x129)) (fun ⟨x127, x129, v128⟩ => fun w131 => Hp w [] M [ownR [] (intE .i64) 3 v128 x127] w131 ∧ Adv (mm [ownR [] (intE .i64) 3 v25 x24] M) (mm [ownR [] (intE .i64) 3 v128 x127] M) w115 w131 ∧ InK .i64 x129) (x24, 0, v25) h121 ⟨hI118, (Adv.refl _ _), (by decide)⟩ (Sub.cons rfl (Sub.cons rfl (Sub.cons rfl (Sub.cons rfl (Sub.cons rfl (Sub.cons rfl (Sub.cons rfl (Sub.cons rfl (Sub.cons rfl (Sub.nil _)))))))))) ?_
          rintro ⟨x127, x129, v128⟩ w131 ⟨hI132, hA133, r130⟩ y134 h135 hR136
          refine cw_seq (cw_regF ?_)
          refine s_lss rfl rfl rfl ?_
          refine Reg.nil ?_
          refine cw_seq ?_
          refine cw_cond rfl (fun hc137 => ?_) (fun hc137 => ?_)
          ·replace h135 := cdT hc137 h135
           refine cw_skip ?_
           obtain ⟨j138, h139, h135⟩ := bnd h135
           refine cw_sub (L := [(7, _), (1, _), (5, _), (18, _), (19, _), (20, _), (40, _), (41, _), (42, _)]) (Sub.cons rfl (Sub.cons rfl (Sub.cons rfl (Sub.cons rfl (Sub.cons rfl (Sub.cons rfl (Sub.cons rfl (Sub.cons rfl (Sub.cons rfl (Sub.nil _)))))))))) ?_
           refine cw_seqD 1 (ι := (List Int) × Value) (fun ⟨x140, v141⟩ => [(7, v141)]) (fun ⟨x140, v141⟩ => fun w142 => Hp w [] M [ownR [] (intE .i64) 3 v141 x140] w142 ∧ Adv (mm [ownR [] (intE .i64) 3 v128 x127] M) (mm [ownR [] (intE .i64) 3 v141 x140] M) w131 w142 ∧ x140 = j138) ?_ ?_
           ·skip
            refine cw_block ?_
            refine cw_seq (cw_regF ?_)
            obtain ⟨y145, hy145, h139⟩ := bnd h139
            refine p_ia rfl rfl (g102.adv (x114.trans (x117.trans ((Hp.eraseA (σ := [rowR 84 b111 [Value.int .i64 ((I70.as84 y42).weight), v101], ownR [] (intE .i64) 3 v25 x24]) 0).trans hA133)))) hy145 Tryz.underlying42 Tryz.sizeOf66 rfl ?_
            intro b146 o147 cs148 hR149 hC150
            obtain ⟨rfl, r151, r152, r153, r154, r155⟩ := NodeE_R.1 hR149
            refine s_lda rfl hC150.cells Tryz.isAgg66 rfl Tryz.sizeOf66 rfl ?_
            refine y_al hI132 Tryz.zeroValue66 rfl rfl ?_
            intro b156 w157 hI158 x159
            refine y_st 0 hI158 rfl rfl rfl rfl Tryz.sizeOf66 rfl rfl (one1 rfl (one1 rfl (one1 rfl (one1 rfl (one1 rfl one0))))) ?_
            intro w160 hI161 x162
            have hC164 := hI161.freezeRow 0 rfl
            have hI163 := hI161.erase 0
            refine Reg.nil ?_
            refine cw_seq (cw_regF ?_)
            refine s_fa rfl Tryz.underlying66 rfl Tryz.sizeOf3 rfl ?_
            refine s_ld rfl (hC164.cells.at 0 rfl) Tryz.isAgg3 rfl ?_
            refine s_mv rfl rfl ?_
            refine s_eql rfl rfl rfl ?_
            refine Reg.nil ?_
            obtain ⟨j165, h166, h139⟩ := bnd h139
            refine cw_sub (L := [(7, _), (13, _), (49, _), (1, _), (5, _), (18, _), (19, _), (20, _), (40, _), (41, _), (42, _)]) (Sub.cons rfl (Sub.cons rfl (Sub.cons rfl (Sub.cons rfl (Sub.cons rfl (Sub.cons rfl (Sub.cons rfl (Sub.cons rfl (Sub.cons rfl (Sub.cons rfl (Sub.cons rfl (Sub.nil _)))))))))))) ?_
            refine cw_unitD 3 (ι := (List Int) × Value) (fun ⟨x167, v168⟩ => [(7, v168)]) (fun ⟨x167, v168⟩ => fun w169 => Hp w [] M [ownR [] (intE .i64) 3 v168 x167] w169 ∧ Adv (mm [ownR [] (intE .i64) 3 v128 x127] M) (mm [ownR [] (intE .i64) 3 v168 x167] M) w160 w169 ∧ x167 = j165) ?_ ?_
            ·skip
             refine cw_cond rfl (fun hc172 => ?_) (fun hc172 => ?_)
             ·replace h166 := cdT hc172 h166
              refine cw_regF ?_
              refine s_mv rfl rfl ?_
              refine s_fa rfl Tryz.underlying66 rfl Tryz.sizeOf3 rfl ?_
              refine s_ld rfl (hC164.cells.at 1 rfl) Tryz.isAgg3 rfl ?_
              refine y_bs (E := (intE .i64)) (xs := [y145.cut]) sl26 hI163 rfl rfl (Cls.cons rfl Cls.nil) (Chs.cons ⟨rfl, r152⟩ Chs.nil) rfl rfl ?_
              intro v173 w174 hI175 x176
              have hf177 := hI175.freeze 0 rfl
              have hI178 := hI175.erase 0
              obtain ⟨l179, hl179, h166⟩ := bnd h166
              obtain ⟨hbl179, el179⟩ := appo_out hl179
              refine y_app 0 sl26 hI178 rfl rfl rfl hf177 hbl179 rfl ?_
              rw [← el179]
              intro v180 w181 hI182 x183
              refine s_as rfl rfl ?_
              refine Reg.nil ?_
              obtain rfl := Option.some.inj h166
              refine ⟨rfl, (l179, v180), ⟨hI182, (x176.trans ((Hp.eraseA (σ := [ownR [] (intE .i64) 3 v173 ([y145.cut] : List Int), ownR [] (intE .i64) 3 v128 x127]) 0).trans x183)), rfl⟩, Sub.cons rfl (Sub.cons rfl (Sub.cons rfl (Sub.cons rfl (Sub.cons rfl (Sub.cons rfl (Sub.cons rfl (Sub.cons rfl (Sub.cons rfl (Sub.nil _)))))))))⟩
             ·replace h166 := cdF hc172 h166
              refine cw_skip ?_
              obtain rfl := Option.some.inj h166
              refine ⟨rfl, (x127, v128), ⟨hI163, (Adv.refl _ _), rfl⟩, Sub.cons rfl (Sub.cons rfl (Sub.cons rfl (Sub.cons rfl (Sub.cons rfl (Sub.cons rfl (Sub.cons rfl (Sub.cons rfl (Sub.cons rfl (Sub.nil _)))))))))⟩
            ·skip
             rintro ⟨x167, v168⟩ w169 ⟨hI170, hA171, rfl⟩
             obtain rfl := Option.some.inj h139
             refine ⟨rfl, (x167, v168), ⟨hI170, (x159.trans (x162.trans ((Hp.eraseA (σ := [rowR 66 b156 [Value.int .i64 y145.trait, Value.int .i64 y145.cut, Value.int .i64 y145.low, Value.int .i64 y145.high, Value.int .i64 y145.points], ownR [] (intE .i64) 3 v128 x127]) 0).trans hA171))), rfl⟩, Sub.cons rfl (Sub.cons rfl (Sub.cons rfl (Sub.cons rfl (Sub.cons rfl (Sub.cons rfl (Sub.cons rfl (Sub.cons rfl (Sub.cons rfl (Sub.nil _)))))))))⟩
           ·skip
            rintro ⟨x140, v141⟩ w142 ⟨hI143, hA144, rfl⟩
            refine cw_regF ?_
            obtain ⟨n184, hn184, h135⟩ := bnd h135
            replace hn184 := chk_out hn184
            refine p_add rfl rfl rfl hn184 ?_
            refine s_mv rfl rfl ?_
            refine Reg.nil ?_
            obtain rfl := Option.some.inj h135
            refine ⟨rfl, (x140, n184, v141), ⟨⟨hI143, (hA133.trans hA144), hn184.2⟩, rfl⟩, Sub.cons rfl (Sub.cons rfl (Sub.cons rfl (Sub.cons rfl (Sub.cons rfl (Sub.cons rfl (Sub.cons rfl (Sub.cons rfl (Sub.cons rfl (Sub.nil _)))))))))⟩
          ·replace h135 := cdF hc137 h135
           refine cw_exit ?_
           refine exB_same ?_
           obtain rfl := Option.some.inj h135
           obtain rfl := hR136 _ rfl
           refine ⟨rfl, (x127, v128), ⟨hI132, hA133, rfl⟩, Sub.cons rfl (Sub.cons rfl (Sub.cons rfl (Sub.cons rfl (Sub.cons rfl (Sub.cons rfl (Sub.nil _))))))⟩
         ·skip
          rintro ⟨x122, v123⟩ w124 ⟨hI125, hA126, rfl⟩
          obtain rfl := Option.some.inj h104
          refine ⟨rfl, (x122, v123), ⟨hI125, (x114.trans (x117.trans ((Hp.eraseA (σ := [rowR 84 b111 [Value.int .i64 ((I70.as84 y42).weight), v101], ownR [] (intE .i64) 3 v25 x24]) 0).trans hA126))), rfl⟩, Sub.cons rfl (Sub.cons rfl (Sub.cons rfl (Sub.cons rfl (Sub.cons rfl (Sub.cons rfl (Sub.nil _))))))⟩
        ·replace h104 := cdF hc110 h104
         refine cw_skip ?_
         obtain rfl := Option.some.inj h104
         refine ⟨rfl, (x24, v25), ⟨hI29, (Adv.refl _ _), rfl⟩, Sub.cons rfl (Sub.cons rfl (Sub.cons rfl (Sub.cons rfl (Sub.cons rfl (Sub.cons rfl (Sub.nil _))))))⟩
       ·skip
        rintro ⟨x105, v106⟩ w107 ⟨hI108, hA109, rfl⟩
        obtain rfl := Option.some.inj h65
        refine ⟨rfl, (x105, v106), ⟨hI108, hA109, rfl⟩, Sub.cons rfl (Sub.cons rfl (Sub.cons rfl (Sub.cons rfl (Sub.cons rfl (Sub.cons rfl (Sub.nil _))))))⟩
     ·skip
      rintro ⟨x66, v67⟩ w68 ⟨hI69, hA70, rfl⟩
      obtain rfl := Option.some.inj h51
      refine ⟨rfl, (x66, v67), ⟨hI69, hA70, rfl⟩, Sub.cons rfl (Sub.cons rfl (Sub.cons rfl (Sub.cons rfl (Sub.cons rfl (Sub.cons rfl (Sub.nil _))))))⟩
    ·skip
     rintro ⟨x52, v53⟩ w54 ⟨hI55, hA56, rfl⟩
     obtain rfl := Option.some.inj h36
     refine ⟨rfl, (x52, v53), ⟨hI55, hA56, rfl⟩, Sub.cons rfl (Sub.cons rfl (Sub.cons rfl (Sub.cons rfl (Sub.cons rfl (Sub.cons rfl (Sub.nil _))))))⟩
   ·skip
    rintro ⟨x37, v38⟩ w39 ⟨hI40, hA41, rfl⟩
    refine cw_regF ?_
    obtain ⟨n185, hn185, h32⟩ := bnd h32
    replace hn185 := chk_out hn185
    refine p_add rfl rfl rfl hn185 ?_
    refine s_mv rfl rfl ?_
    refine Reg.nil ?_
    obtain rfl := Option.some.inj h32
    refine ⟨rfl, (x37, n185, v38), ⟨⟨hI40, (hA30.trans hA41), hn185.2⟩, rfl⟩, Sub.cons rfl (Sub.cons rfl (Sub.cons rfl (Sub.cons rfl (Sub.cons rfl (Sub.cons rfl (Sub.nil _))))))⟩
  ·replace h32 := cdF hc34 h32
   refine cw_exit ?_
   refine exB_same ?_
   obtain rfl := Option.some.inj h32
   obtain rfl := hR33 _ rfl
   refine ⟨rfl, (x24, v25), ⟨hI29, hA30, rfl⟩, Sub.cons rfl (Sub.cons rfl (Sub.nil _))⟩
 ·skip
  rintro ⟨x19, v20⟩ w21 ⟨hI22, hA23, rfl⟩
  refine cw_seq (cw_regF ?_)
  refine s_mv rfl rfl ?_
  refine s_mf rfl rfl ?_
  obtain ⟨z186, hz187, h⟩ := bnd h
  refine s_call rfl Tryz.call43 rfl ?_
  refine (C_score_unique_43 (hI22.erase 0).mlt (hI22.apart 0 rfl) (hI22.lendOwn 0 rfl) (fun a0 r w9 e9 f0 hr => CallsV.ofL Tryz.call44 rfl (C_score_works_stand_in1 ((hI22.lendM 0 rfl).ext e9) f0 f_s_0 f_s_1 ((hC12.adv (x16.trans hA23)).adv ((Hp.lendA (σ := [ownR [] (intE .i64) 3 v20 x19]) (M := M) 0 rfl).trans (Adv.lent e9))) hr)) ⟨rfl, rfl⟩ hz187).mono ?_
  rintro _ w188 ⟨v190, rfl, hf191⟩
  refine ⟨_, rfl, ?_⟩
  have hI192 := hI22.took 0 rfl hf191
  have hf193 := hI192.freeze 0 rfl
  have hI194 := hI192.erase 0
  obtain ⟨z195, hz196, h⟩ := bnd h
  refine s_call rfl Tryz.call42 rfl ?_
  refine (C_slices_Values_42 hI194.mlt hf193 hz196).mono ?_
  rintro _ w197 ⟨v199, rfl, hf200, e198⟩
  refine ⟨_, rfl, ?_⟩
  have hI201 := hI194.ext e198
  refine s_as rfl rfl ?_
  refine Reg.nil ?_
  refine cw_ret ?_
  obtain rfl := Option.some.inj h
  refine fin1 Tryz.results28 rfl ?_
  exact ⟨_, rfl, (hf200.adv (Hp.baseA (σ := []))), hI201.kp⟩
end Go.Proofs.YtecmlmngcnionaaGreat
namespace Go.Proofs.YtecmlmngcnionaaGreat
open Go Go.Sx
namespace S
def lexc : List Int → List Int → Int
  | [], [] => 0
  | [], _ :: _ => -1
  | _ :: _, [] => 1
  | a :: r, b :: t => if a < b then -1 else if b < a then 1 else lexc r t
def setc (a b : List Int) : Int := if a.length = b.length then lexc a b else (a.length : Int) - b.length
theorem p_cmp (x y : Int) : P.cmp_Compare_41 x y = some (if x < y then -1 else if y < x then 1 else 0) := by
  unfold P.cmp_Compare_41 P.cmp_isNaN_63
  by_cases h1 : x < y
  · simp [h1]
  · by_cases h2 : y < x <;> simp [h1, h2]
def cmpAt (b : List Int) (i : Nat) (y : Int) : Option (Unit ⊕ Int) := match b[i]? with
  | none => some (.inr 1)
  | some z => if y < z then some (.inr (-1)) else if z < y then some (.inr 1) else none
theorem cmp_find (b : List Int) : ∀ (a : List Int) (k : Nat), Sum.elim (fun _ => if a.length + k < b.length then (-1 : Int) else 0) id (((a.zipIdx k).findSome? fun p => cmpAt b p.2 p.1).getD (.inl ())) = lexc a (b.drop k)
  | [], k => by
    simp only [List.zipIdx_nil, List.findSome?_nil, Option.getD_none, Sum.elim_inl, List.length_nil, Nat.zero_add]
    by_cases h : k < b.length
    · rw [List.drop_eq_getElem_cons h]; simp [h, lexc]
    · rw [List.drop_eq_nil_of_le (by omega)]; simp [h, lexc]
  | x :: a, k => by
    rw [List.zipIdx_cons, List.findSome?_cons]
    by_cases h : k < b.length
    · have hb : b[k]? = some b[k] := List.getElem?_eq_getElem h
      rw [List.drop_eq_getElem_cons h]
      simp only [cmpAt, hb, lexc]
      by_cases h1 : x < b[k]
      · simp [h1]
      · by_cases h2 : b[k] < x
        · simp [h1, h2]
        · simp only [h1, h2, if_false]
          have := cmp_find b a (k + 1)
          rw [List.length_cons, show a.length + 1 + k = a.length + (k + 1) by omega]
          exact this
    · rw [List.drop_eq_nil_of_le (by omega)]
      have hb : b[k]? = none := List.getElem?_eq_none (by omega)
      simp [cmpAt, hb, lexc]
theorem p_compare (a b : List Int) (ha : a.length ≤ 9223372036854775807) (hb : b.length ≤ 9223372036854775807) : P.slices_Compare_25 a b = some (lexc a b) := by
  unfold P.slices_Compare_25
  have key : loopM (S := Int) (R := (Unit) ⊕ (Int)) (fun x1 => cond (decide (x1 < (a.length : Int))) (Option.bind (ixo a x1) fun y3 => cond (decide ((b.length : Int) ≤ x1)) (some (.inr (.inr 1))) (Option.bind (ixo b x1) fun y11 => Option.bind (P.cmp_Compare_41 y3 y11) fun z18 => cond (!decide (z18 = 0)) (some (.inr (.inr z18))) (Option.bind (chk .i64 (x1 + 1)) fun n25 => some (.inl n25)))) (some (.inr (.inl ())))) 0 = some (((a.zipIdx 0).findSome? fun p => cmpAt b p.2 p.1).getD (.inl ())) :=
    loop_find a (fun i => (i : Int)) (fun i y => cmpAt b i y) (.inl ()) (fun i y hy => by
      have hi := get_lt hy
      simp only [lt_cast hi, condT, ixo_at hy, bindS, chk_nat (i := i) (by omega), cmpAt]
      by_cases h : i < b.length
      · have e1 : decide ((b.length : Int) ≤ i) = false := decide_eq_false (by omega)
        have hz : b[i]? = some b[i] := List.getElem?_eq_getElem h
        simp only [e1, condF, ixo_at hz, hz, bindS, p_cmp]
        by_cases h1 : y < b[i]
        · simp [h1]
        · by_cases h2 : b[i] < y
          · simp [h1, h2]
          · simp [h1, h2]
      · have e1 : decide ((b.length : Int) ≤ i) = true := decide_eq_true (by omega)
        have hz : b[i]? = none := List.getElem?_eq_none (by omega)
        simp only [e1, condT, hz]) (by simp only [not_lt_cast, condF])
  rw [key, bindS]
  have := cmp_find b a 0
  rw [List.drop_zero, Nat.add_zero] at this
  cases h : ((a.zipIdx 0).findSome? fun p => cmpAt b p.2 p.1).getD (.inl ()) with
  | inl u =>
    rw [h, Sum.elim_inl] at this
    rw [elimLS, ← this]
    by_cases h1 : a.length < b.length
    · have e1 : decide ((a.length : Int) < b.length) = true := decide_eq_true (by omega)
      rw [e1, condT, if_pos h1]
    · have e1 : decide ((a.length : Int) < b.length) = false := decide_eq_false (by omega)
      rw [e1, condF, if_neg h1]
  | inr r =>
    rw [h, Sum.elim_inr] at this
    rw [elimRS, ← this]; rfl
theorem p_sets1 (a b : List Int) (ha : a.length ≤ 9223372036854775807) (hb : b.length ≤ 9223372036854775807) : P.score_sets_in1 a b = some (setc a b) := by
  unfold P.score_sets_in1 setc
  rw [chk_i64 (by omega), bindS]
  by_cases h : a.length = b.length
  · have e : decide ((a.length : Int) - b.length = 0) = true := decide_eq_true (by omega)
    rw [e, notT, condF, p_compare a b ha hb, bindS, if_pos h]
  · have e : decide ((a.length : Int) - b.length = 0) = false := decide_eq_false (by omega)
    rw [e, notF, condT, if_neg h]
theorem lexc_anti : ∀ a b : List Int, lexc b a = - lexc a b
  | [], [] => rfl
  | [], _ :: _ => rfl
  | _ :: _, [] => rfl
  | x :: a, y :: b => by
    simp only [lexc]
    have := lexc_anti a b
    by_cases h1 : x < y
    · have : ¬ y < x := by omega
      simp [h1, this]
    · by_cases h2 : y < x <;> simp [h1, h2, this]
theorem lexc_trans : ∀ a b c : List Int, lexc a b ≤ 0 → lexc b c ≤ 0 → lexc a c ≤ 0 ∧ (lexc a b < 0 ∨ lexc b c < 0 → lexc a c < 0)
  | [], [], [], _, _ => by simp [lexc]
  | [], [], _ :: _, _, _ => by simp [lexc]
  | [], _ :: _, [], _, h => by simp [lexc] at h
  | [], _ :: _, _ :: _, _, _ => by simp [lexc]
  | _ :: _, [], _, h, _ => by simp [lexc] at h
  | _ :: _, _ :: _, [], _, h => by simp [lexc] at h
  | x :: a, y :: b, z :: c, h1, h2 => by
    simp only [lexc] at h1 h2 ⊢
    have ih := lexc_trans a b c
    by_cases e1 : x < y
    · by_cases e2 : y < z
      · have : x < z := by omega
        simp [this]
      · by_cases e3 : z < y
        · simp [e2, e3] at h2
        · have : x < z := by omega
          simp [this]
    · by_cases e2 : y < x
      · simp [e1, e2] at h1
      · have e : x = y := by omega
        subst e
        simp only [Int.lt_irrefl, if_false] at h1 ⊢
        by_cases e3 : x < z
        · simp [e3]
        · by_cases e4 : z < x
          · simp [e3, e4] at h2
          · simp only [e3, e4, if_false] at h2 ⊢
            exact ih h1 h2
theorem setc_anti (a b : List Int) : setc b a = - setc a b := by
  unfold setc
  by_cases h : a.length = b.length
  · rw [if_pos h, if_pos h.symm, lexc_anti]
  · rw [if_neg h, if_neg (fun e => h e.symm)]; omega
theorem setc_trans (a b c : List Int) (h1 : setc a b ≤ 0) (h2 : setc b c ≤ 0) : setc a c ≤ 0 ∧ (setc a b < 0 ∨ setc b c < 0 → setc a c < 0) := by
  unfold setc at h1 h2 ⊢
  by_cases e1 : a.length = b.length
  · by_cases e2 : b.length = c.length
    · have e3 : a.length = c.length := by omega
      rw [if_pos e1] at h1; rw [if_pos e2] at h2
      rw [if_pos e3, if_pos e1, if_pos e2]
      exact lexc_trans a b c h1 h2
    · have e3 : ¬ a.length = c.length := by omega
      rw [if_neg e2] at h2
      rw [if_neg e3]; omega
  · rw [if_neg e1] at h1
    by_cases e2 : b.length = c.length
    · have e3 : ¬ a.length = c.length := by omega
      rw [if_neg e3]; omega
    · rw [if_neg e2] at h2
      have e3 : ¬ a.length = c.length := by omega
      rw [if_neg e3]; omega
end S
end Go.Proofs.YtecmlmngcnionaaGreat
namespace Go.Proofs.YtecmlmngcnionaaGreat
namespace S
theorem lexc_zero : ∀ a b : List Int, lexc a b = 0 → a = b
  | [], [], _ => rfl
  | [], _ :: _, h => by simp [lexc] at h
  | _ :: _, [], h => by simp [lexc] at h
  | x :: a, y :: b, h => by
    simp only [lexc] at h
    by_cases h1 : x < y
    · simp [h1] at h
    · by_cases h2 : y < x
      · simp [h1, h2] at h
      · simp only [h1, h2, if_false] at h
        rw [lexc_zero a b h, show x = y by omega]
theorem setc_zero (a b : List Int) (h1 : setc a b ≤ 0) (h2 : setc b a ≤ 0) : a = b := by
  have h3 := setc_anti a b
  have h4 : setc a b = 0 := by omega
  unfold setc at h4
  by_cases e : a.length = b.length
  · rw [if_pos e] at h4; exact lexc_zero a b h4
  · rw [if_neg e] at h4; omega
theorem sorted_one {α : Type} {r : α → α → Prop} (anti : ∀ a b, r a b → r b a → a = b) : ∀ l1 l2 : List α, l1.Perm l2 → l1.Pairwise r → l2.Pairwise r → l1 = l2
  | [], l2, hp, _, _ => hp.nil_eq
  | a :: l1, [], hp, _, _ => absurd hp.length_eq (by simp)
  | a :: l1, b :: l2, hp, h1, h2 => by
    rw [List.pairwise_cons] at h1 h2
    have hab : a = b := by
      rcases List.mem_cons.1 (hp.mem_iff.1 (List.mem_cons_self ..)) with h | h
      · exact h
      · rcases List.mem_cons.1 (hp.mem_iff.2 (List.mem_cons_self (a := b) (l := l2))) with h' | h'
        · exact h'.symm
        · exact anti a b (h1.1 b h') (h2.1 a h)
    subst hab
    rw [sorted_one anti l1 l2 (List.Perm.cons_inv hp) h1.2 h2.2]
theorem setc_total (a b : List Int) : (decide (setc a b ≤ 0) || decide (setc b a ≤ 0)) = true := by
  have := setc_anti a b
  rw [Bool.or_eq_true, decide_eq_true_eq, decide_eq_true_eq]; omega
theorem sort_is {r x : List (List Int)} (hp : r.Perm x) (hs : ∀ (i j : Nat) (a b : List Int), i < j → r[i]? = some a → r[j]? = some b → setc a b ≤ 0) : r = x.mergeSort fun a b => decide (setc a b ≤ 0) := by
  refine sorted_one (r := fun a b => setc a b ≤ 0) setc_zero _ _ (hp.trans (List.mergeSort_perm x _).symm) ?_ ?_
  · rw [List.pairwise_iff_getElem]
    intro i j hi hj hij
    exact hs i j _ _ hij (List.getElem?_eq_getElem hi) (List.getElem?_eq_getElem hj)
  · have := List.pairwise_mergeSort (le := fun a b => decide (setc a b ≤ 0)) (fun a b c h1 h2 => by
      rw [decide_eq_true_eq] at *
      exact (setc_trans a b c h1 h2).1) setc_total x
    exact this.imp fun h => by simpa using h
end S
end Go.Proofs.YtecmlmngcnionaaGreat
set_option maxRecDepth 20000
namespace Go.Proofs.YtecmlmngcnionaaGreat
open Go Go.Sx Go.RowKit
theorem W_cmp_isNaN_63 {M : List Nat} {w : World} (hM : MLt M w) {x : Int} (f_x_0 : InK IntKind.i64 x) {r0 : Bool} (h : P.cmp_isNaN_63 x = some r0) :
    Calls Tryz.prog 63 (List.toArray [Value.int IntKind.i64 x]) w fun e w' => e = .returned (Value.bool r0) ∧ w = w' := by
  have hI := Hp.start (Mu := []) hM
  refine calls_cw Tryz.func63 rfl Tryz.ntmps63 rfl ?_
  refine cw_seq ?_
  refine cw_regF ?_
  refine s_as rfl rfl ?_
  refine Reg.nil ?_
  refine cw_seq ?_
  refine cw_regF ?_
  refine s_mv rfl rfl ?_
  refine s_mv rfl rfl ?_
  refine s_neq rfl rfl rfl ?_
  refine s_as rfl rfl ?_
  refine Reg.nil ?_
  refine cw_ret ?_
  obtain rfl := Option.some.inj h
  refine fin1 Tryz.results63 rfl ?_
  exact ⟨rfl, rfl⟩
theorem W_cmp_Compare_41 {M : List Nat} {w : World} (hM : MLt M w) {x : Int} (f_x_0 : InK IntKind.i64 x) {y : Int} (f_y_0 : InK IntKind.i64 y) {r0 : Int} (h : P.cmp_Compare_41 x y = some r0) :
    Calls Tryz.prog 41 (List.toArray [Value.int IntKind.i64 x, Value.int IntKind.i64 y]) w fun e w' => e = .returned (Value.int IntKind.i64 r0) ∧ InK IntKind.i64 r0 ∧ w = w' := by
  have hI := Hp.start (Mu := []) hM
  refine calls_cw Tryz.func41 rfl Tryz.ntmps41 rfl ?_
  refine cw_seq ?_
  refine cw_regF ?_
  refine s_as rfl rfl ?_
  refine Reg.nil ?_
  refine cw_seq ?_
  refine cw_regF ?_
  refine s_mv rfl rfl ?_
  obtain ⟨z1, hz2, h⟩ := bnd h
  refine s_call rfl Tryz.call63 rfl ?_
  refine (W_cmp_isNaN_63 hI.mlt f_x_0 hz2).mono ?_
  rintro _ _ ⟨rfl, rfl⟩
  refine ⟨_, rfl, ?_⟩
  refine s_as rfl rfl ?_
  refine Reg.nil ?_
  refine cw_seq ?_
  refine cw_regF ?_
  refine s_mv rfl rfl ?_
  obtain ⟨z5, hz6, h⟩ := bnd h
  refine s_call rfl Tryz.call63 rfl ?_
  refine (W_cmp_isNaN_63 hI.mlt f_y_0 hz6).mono ?_
  rintro _ _ ⟨rfl, rfl⟩
  refine ⟨_, rfl, ?_⟩
  refine s_as rfl rfl ?_
  refine Reg.nil ?_
  refine cw_seq ?_
  refine cw_seq ?_
  refine cw_regF ?_
  refine s_mv rfl rfl ?_
  refine Reg.nil ?_
  refine cw_cond rfl (fun hc9 => ?_) (fun hc9 => ?_)
  · replace h := cdT hc9 h
    refine cw_seq ?_
    refine cw_seq ?_
    refine cw_regF ?_
    refine s_mv rfl rfl ?_
    refine Reg.nil ?_
    refine cw_cond rfl (fun hc10 => ?_) (fun hc10 => ?_)
    · replace h := cdT hc10 h
      refine cw_seq ?_
      refine cw_regF ?_
      refine s_as rfl rfl ?_
      refine Reg.nil ?_
      refine cw_ret ?_
      obtain rfl := Option.some.inj h
      refine fin1 Tryz.results41 rfl ?_
      exact ⟨rfl, (by decide), rfl⟩
    · replace h := cdF hc10 h
      refine cw_skip ?_
      refine cw_seq ?_
      refine cw_regF ?_
      refine s_as rfl rfl ?_
      refine Reg.nil ?_
      refine cw_ret ?_
      obtain rfl := Option.some.inj h
      refine fin1 Tryz.results41 rfl ?_
      exact ⟨rfl, (by decide), rfl⟩
  · replace h := cdF hc9 h
    refine cw_skip ?_
    refine cw_seq ?_
    refine cw_seq ?_
    refine cw_regF ?_
    refine s_mv rfl rfl ?_
    refine Reg.nil ?_
    refine cw_cond rfl (fun hc11 => ?_) (fun hc11 => ?_)
    · replace h := cdT hc11 h
      refine cw_seq ?_
      refine cw_regF ?_
      refine s_as rfl rfl ?_
      refine Reg.nil ?_
      refine cw_ret ?_
      obtain rfl := Option.some.inj h
      refine fin1 Tryz.results41 rfl ?_
      exact ⟨rfl, (by decide), rfl⟩
    · replace h := cdF hc11 h
      refine cw_skip ?_
      refine cw_seq ?_
      refine cw_seq ?_
      refine cw_regF ?_
      refine s_mv rfl rfl ?_
      refine s_mv rfl rfl ?_
      refine s_lss rfl rfl rfl ?_
      refine Reg.nil ?_
      refine cw_cond rfl (fun hc12 => ?_) (fun hc12 => ?_)
      · replace h := cdT hc12 h
        refine cw_seq ?_
        refine cw_regF ?_
        refine s_as rfl rfl ?_
        refine Reg.nil ?_
        refine cw_ret ?_
        obtain rfl := Option.some.inj h
        refine fin1 Tryz.results41 rfl ?_
        exact ⟨rfl, (by decide), rfl⟩
      · replace h := cdF hc12 h
        refine cw_skip ?_
        refine cw_seq ?_
        refine cw_seq ?_
        refine cw_regF ?_
        refine s_mv rfl rfl ?_
        refine s_mv rfl rfl ?_
        refine s_gtr rfl rfl rfl ?_
        refine Reg.nil ?_
        refine cw_cond rfl (fun hc13 => ?_) (fun hc13 => ?_)
        · replace h := cdT hc13 h
          refine cw_seq ?_
          refine cw_regF ?_
          refine s_as rfl rfl ?_
          refine Reg.nil ?_
          refine cw_ret ?_
          obtain rfl := Option.some.inj h
          refine fin1 Tryz.results41 rfl ?_
          exact ⟨rfl, (by decide), rfl⟩
        · replace h := cdF hc13 h
          refine cw_skip ?_
          refine cw_seq ?_
          refine cw_regF ?_
          refine s_as rfl rfl ?_
          refine Reg.nil ?_
          refine cw_ret ?_
          obtain rfl := Option.some.inj h
          refine fin1 Tryz.results41 rfl ?_
          exact ⟨rfl, (by decide), rfl⟩
theorem W_slices_Compare_25 {M : List Nat} {w : World} (hM : MLt M w) {s1 : (List Int)} {v_s1_0 : Value} (f_s1_0 : RdS (intE .i64) M w v_s1_0 s1) {s2 : (List Int)} {v_s2_0 : Value} (f_s2_0 : RdS (intE .i64) M w v_s2_0 s2) {r0 : Int} (h : P.slices_Compare_25 s1 s2 = some r0) :
    Calls Tryz.prog 25 (List.toArray [v_s1_0, v_s2_0]) w fun e w' => e = .returned (Value.int IntKind.i64 r0) ∧ InK IntKind.i64 r0 ∧ w = w' := by
  have hI := Hp.start (Mu := []) hM
  refine calls_cw Tryz.func25 rfl Tryz.ntmps25 rfl ?_
  refine cw_seq ?_
  refine cw_regF ?_
  refine s_as rfl rfl ?_
  refine Reg.nil ?_
  refine cw_seq ?_
  refine cw_seq ?_
  refine cw_regF ?_
  refine s_mv rfl rfl ?_
  refine s_len rfl f_s1_0 Tryz.underlying26 rfl ?_
  refine s_mv rfl rfl ?_
  refine Reg.nil ?_
  obtain ⟨j1, h2, h⟩ := bnd h
  refine cw_sub (L := [(9, _), (10, _), (11, _), (0, _), (1, _)]) (Sub.cons rfl (Sub.cons rfl (Sub.cons rfl (Sub.cons rfl (Sub.cons rfl (Sub.nil _)))))) ?_
  refine cw_unitD 3 (ι := Unit) (fun _ => []) (fun _ => fun w3 => w = w3 ∧ (.inl ()) = j1) ?_ ?_
  · skip
    refine cw_block ?_
    refine cw_sub (L := [(11, _), (0, _), (1, _), (9, _), (10, _)]) (Sub.cons rfl (Sub.cons rfl (Sub.cons rfl (Sub.cons rfl (Sub.cons rfl (Sub.nil _)))))) ?_
    refine cw_loopM 1 (ι := Int) _ (fun x6 => [(11, Value.int IntKind.i64 (x6))]) (fun x6 => x6) (fun x6 => fun w8 => w = w8 ∧ InK IntKind.i64 x6) 0 h2 ⟨rfl, (by decide)⟩ (Sub.cons rfl (Sub.cons rfl (Sub.cons rfl (Sub.cons rfl (Sub.cons rfl (Sub.nil _)))))) ?_
    rintro x6 _ ⟨rfl, r7⟩ y11 h12 hR13
    refine cw_seq ?_
    refine cw_regF ?_
    refine s_lss rfl rfl rfl ?_
    refine Reg.nil ?_
    refine cw_seq ?_
    refine cw_cond rfl (fun hc14 => ?_) (fun hc14 => ?_)
    · replace h12 := cdT hc14 h12
      refine cw_skip ?_
      refine cw_seq ?_
      refine cw_block ?_
      refine cw_seq ?_
      refine cw_regF ?_
      refine s_mv rfl rfl ?_
      obtain ⟨y15, hy15, h12⟩ := bnd h12
      refine p_ia rfl rfl f_s1_0 hy15 Tryz.underlying26 Tryz.sizeOf3 rfl ?_
      intro b16 o17 cs18 hR19 hC20
      obtain ⟨rfl, r21⟩ := hR19
      refine s_ld rfl (hC20.cells.at 0 rfl) Tryz.isAgg3 rfl ?_
      refine s_as rfl rfl ?_
      refine s_as rfl rfl ?_
      refine Reg.nil ?_
      refine cw_seq ?_
      refine cw_seq ?_
      refine cw_regF ?_
      refine s_mv rfl rfl ?_
      refine s_mv rfl rfl ?_
      refine s_len rfl f_s2_0 Tryz.underlying26 rfl ?_
      refine s_geq rfl rfl rfl ?_
      refine Reg.nil ?_
      refine cw_cond rfl (fun hc22 => ?_) (fun hc22 => ?_)
      · replace h12 := cdT hc22 h12
        refine cw_seq ?_
        refine cw_regF ?_
        refine s_as rfl rfl ?_
        refine Reg.nil ?_
        refine cw_ret ?_
        obtain rfl := Option.some.inj h12
        obtain rfl := hR13 _ rfl
        replace h := elimR h
        obtain rfl := Option.some.inj h
        refine fin1 Tryz.results25 rfl ?_
        exact ⟨rfl, (by decide), rfl⟩
      · replace h12 := cdF hc22 h12
        refine cw_skip ?_
        refine cw_seq ?_
        refine cw_regF ?_
        refine s_mv rfl rfl ?_
        refine s_mv rfl rfl ?_
        obtain ⟨y23, hy23, h12⟩ := bnd h12
        refine p_ia rfl rfl f_s2_0 hy23 Tryz.underlying26 Tryz.sizeOf3 rfl ?_
        intro b24 o25 cs26 hR27 hC28
        obtain ⟨rfl, r29⟩ := hR27
        refine s_ld rfl (hC28.cells.at 0 rfl) Tryz.isAgg3 rfl ?_
        refine s_as rfl rfl ?_
        refine Reg.nil ?_
        refine cw_seq ?_
        refine cw_regF ?_
        refine s_mv rfl rfl ?_
        refine s_mv rfl rfl ?_
        obtain ⟨z30, hz31, h12⟩ := bnd h12
        refine s_call rfl Tryz.call41 rfl ?_
        refine (W_cmp_Compare_41 hI.mlt r21 r29 hz31).mono ?_
        rintro _ _ ⟨rfl, r34, rfl⟩
        refine ⟨_, rfl, ?_⟩
        refine s_as rfl rfl ?_
        refine Reg.nil ?_
        refine cw_seq ?_
        refine cw_regF ?_
        refine s_mv rfl rfl ?_
        refine s_neq rfl rfl rfl ?_
        refine Reg.nil ?_
        refine cw_cond rfl (fun hc35 => ?_) (fun hc35 => ?_)
        · replace h12 := cdT hc35 h12
          refine cw_seq ?_
          refine cw_regF ?_
          refine s_mv rfl rfl ?_
          refine s_as rfl rfl ?_
          refine Reg.nil ?_
          refine cw_ret ?_
          obtain rfl := Option.some.inj h12
          obtain rfl := hR13 _ rfl
          replace h := elimR h
          obtain rfl := Option.some.inj h
          refine fin1 Tryz.results25 rfl ?_
          exact ⟨rfl, r34, rfl⟩
        · replace h12 := cdF hc35 h12
          refine cw_skip ?_
          refine cw_regF ?_
          obtain ⟨n36, hn36, h12⟩ := bnd h12
          replace hn36 := chk_out hn36
          refine p_add rfl rfl rfl hn36 ?_
          refine s_mv rfl rfl ?_
          refine Reg.nil ?_
          obtain rfl := Option.some.inj h12
          refine ⟨rfl, n36, ⟨⟨rfl, hn36.2⟩, rfl⟩, Sub.cons rfl (Sub.cons rfl (Sub.cons rfl (Sub.cons rfl (Sub.cons rfl (Sub.nil _)))))⟩
    · replace h12 := cdF hc14 h12
      refine cw_exit ?_
      refine exB_same ?_
      obtain rfl := Option.some.inj h12
      obtain rfl := hR13 _ rfl
      refine ⟨rfl, (), ⟨rfl, rfl⟩, Sub.cons rfl (Sub.cons rfl (Sub.nil _))⟩
  · skip
    rintro _ _ ⟨rfl, rfl⟩
    replace h := elimL h
    refine cw_seq ?_
    refine cw_seq ?_
    refine cw_regF ?_
    refine s_mv rfl rfl ?_
    refine s_len rfl f_s1_0 Tryz.underlying26 rfl ?_
    refine s_mv rfl rfl ?_
    refine s_len rfl f_s2_0 Tryz.underlying26 rfl ?_
    refine s_lss rfl rfl rfl ?_
    refine Reg.nil ?_
    refine cw_cond rfl (fun hc37 => ?_) (fun hc37 => ?_)
    · replace h := cdT hc37 h
      refine cw_seq ?_
      refine cw_regF ?_
      refine s_as rfl rfl ?_
      refine Reg.nil ?_
      refine cw_ret ?_
      obtain rfl := Option.some.inj h
      refine fin1 Tryz.results25 rfl ?_
      exact ⟨rfl, (by decide), rfl⟩
    · replace h := cdF hc37 h
      refine cw_skip ?_
      refine cw_seq ?_
      refine cw_regF ?_
      refine s_as rfl rfl ?_
      refine Reg.nil ?_
      refine cw_ret ?_
      obtain rfl := Option.some.inj h
      refine fin1 Tryz.results25 rfl ?_
      exact ⟨rfl, (by decide), rfl⟩
theorem W_score_sets_in1 {M : List Nat} {w : World} (hM : MLt M w) {a : (List Int)} {v_a_0 : Value} (f_a_0 : RdS (intE .i64) M w v_a_0 a) {b : (List Int)} {v_b_0 : Value} (f_b_0 : RdS (intE .i64) M w v_b_0 b) {r0 : Int} (h : P.score_sets_in1 a b = some r0) :
    Calls Tryz.prog 24 (List.toArray [v_a_0, v_b_0]) w fun e w' => e = .returned (Value.int IntKind.i64 r0) ∧ InK IntKind.i64 r0 ∧ w = w' := by
  have hI := Hp.start (Mu := []) hM
  refine calls_cw Tryz.func24 rfl Tryz.ntmps24 rfl ?_
  refine cw_seq ?_
  refine cw_regF ?_
  refine s_as rfl rfl ?_
  refine Reg.nil ?_
  refine cw_seq ?_
  refine cw_seq ?_
  refine cw_regF ?_
  refine s_mv rfl rfl ?_
  refine s_len rfl f_a_0 Tryz.underlying26 rfl ?_
  refine s_mv rfl rfl ?_
  refine s_len rfl f_b_0 Tryz.underlying26 rfl ?_
  obtain ⟨n1, hn1, h⟩ := bnd h
  replace hn1 := chk_out hn1
  refine p_sub rfl rfl rfl hn1 ?_
  refine s_as rfl rfl ?_
  refine Reg.nil ?_
  refine cw_seq ?_
  refine cw_regF ?_
  refine s_mv rfl rfl ?_
  refine s_neq rfl rfl rfl ?_
  refine Reg.nil ?_
  refine cw_cond rfl (fun hc2 => ?_) (fun hc2 => ?_)
  · replace h := cdT hc2 h
    refine cw_seq ?_
    refine cw_regF ?_
    refine s_mv rfl rfl ?_
    refine s_as rfl rfl ?_
    refine Reg.nil ?_
    refine cw_ret ?_
    obtain rfl := Option.some.inj h
    refine fin1 Tryz.results24 rfl ?_
    exact ⟨rfl, hn1.2, rfl⟩
  · replace h := cdF hc2 h
    refine cw_skip ?_
    refine cw_seq ?_
    refine cw_regF ?_
    refine s_mv rfl rfl ?_
    refine s_mv rfl rfl ?_
    obtain ⟨z3, hz4, h⟩ := bnd h
    refine s_call rfl Tryz.call25 rfl ?_
    refine (W_slices_Compare_25 hI.mlt f_a_0 f_b_0 hz4).mono ?_
    rintro _ _ ⟨rfl, r7, rfl⟩
    refine ⟨_, rfl, ?_⟩
    refine s_as rfl rfl ?_
    refine Reg.nil ?_
    refine cw_ret ?_
    obtain rfl := Option.some.inj h
    refine fin1 Tryz.results24 rfl ?_
    exact ⟨rfl, r7, rfl⟩
end Go.Proofs.YtecmlmngcnionaaGreat
namespace Go.Proofs
open Go.Shelf
def Tryz.laySortFunc_ren : Go.Shelf.Ren := ⟨fun | 6 => 23 | 15 => 40 | 14 => 39 | 28 => 61 | 29 => 62 | 20 => 53 | 21 => 54 | 22 => 55 | 23 => 56 | 24 => 57 | 25 => 58 | 26 => 59 | 27 => 60 | 46 => 72 | 47 => 73 | 48 => 74 | 49 => 75 | 50 => 76 | 57 => 79 | n => n, fun | 22 => 53 | 24 => 26 | 25 => 73 | 3 => 3 | 39 => 91 | 0 => 0 | 53 => 111 | 55 => 113 | 4 => 4 | 46 => 104 | 45 => 103 | 50 => 108 | 5 => 5 | 9 => 9 | 66 => 118 | 70 => 122 | 76 => 126 | 77 => 127 | n => n, fun | n => n⟩
theorem Tryz.laySortFunc : Go.Proofs.SlLaysF.n6 Tryz.prog Tryz.laySortFunc_ren := {
  mixed := by kernel_rfl
  f6 := ⟨Tryz.f23.name, by decide, Tryz.func23.trans (congrArg some (by kernel_rfl))⟩
  f14 := ⟨Tryz.f39.name, by decide, Tryz.func39.trans (congrArg some (by kernel_rfl))⟩
  f15 := Tryz.func40.trans (congrArg some (by kernel_rfl))
  f20 := ⟨Tryz.f53.name, by decide, Tryz.func53.trans (congrArg some (by kernel_rfl))⟩
  f21 := ⟨Tryz.f54.name, by decide, Tryz.func54.trans (congrArg some (by kernel_rfl))⟩
  f22 := ⟨Tryz.f55.name, by decide, Tryz.func55.trans (congrArg some (by kernel_rfl))⟩
  f23 := ⟨Tryz.f56.name, by decide, Tryz.func56.trans (congrArg some (by kernel_rfl))⟩
  f24 := ⟨Tryz.f57.name, by decide, Tryz.func57.trans (congrArg some (by kernel_rfl))⟩
  f25 := ⟨Tryz.f58.name, by decide, Tryz.func58.trans (congrArg some (by kernel_rfl))⟩
  f26 := ⟨Tryz.f59.name, by decide, Tryz.func59.trans (congrArg some (by kernel_rfl))⟩
  f27 := ⟨Tryz.f60.name, by decide, Tryz.func60.trans (congrArg some (by kernel_rfl))⟩
  f28 := Tryz.func61.trans (congrArg some (by kernel_rfl))
  f29 := Tryz.func62.trans (congrArg some (by kernel_rfl))
  f46 := ⟨Tryz.f72.name, by decide, Tryz.func72.trans (congrArg some (by kernel_rfl))⟩
  f47 := Tryz.func73.trans (congrArg some (by kernel_rfl))
  f48 := Tryz.func74.trans (congrArg some (by kernel_rfl))
  f49 := ⟨Tryz.f75.name, by decide, Tryz.func75.trans (congrArg some (by kernel_rfl))⟩
  f50 := ⟨Tryz.f76.name, by decide, Tryz.func76.trans (congrArg some (by kernel_rfl))⟩
  f57 := ⟨Tryz.f79.name, by decide, Tryz.func79.trans (congrArg some (by kernel_rfl))⟩
  t0 := Tryz.underlying0
  a0 := Tryz.isAgg0
  z0 := Tryz.sizeOf0
  v0 := Tryz.zeroValue0
  t3 := Tryz.underlying3
  a3 := Tryz.isAgg3
  z3 := Tryz.sizeOf3
  v3 := Tryz.zeroValue3
  t4 := Tryz.underlying4
  a4 := Tryz.isAgg4
  z4 := Tryz.sizeOf4
  v4 := Tryz.zeroValue4
  t5 := Tryz.underlying5
  a5 := Tryz.isAgg5
  z5 := Tryz.sizeOf5
  v5 := Tryz.zeroValue5
  t9 := Tryz.underlying9
  a9 := Tryz.isAgg9
  z9 := Tryz.sizeOf9
  v9 := Tryz.zeroValue9
  t22 := Tryz.underlying53
  a22 := Tryz.isAgg53
  z22 := Tryz.sizeOf53
  v22 := Tryz.zeroValue53
  a24 := Tryz.isAgg26
  z24 := Tryz.sizeOf26
  t25 := Tryz.underlying73
  a25 := Tryz.isAgg73
  z25 := Tryz.sizeOf73
  v25 := Tryz.zeroValue73
  t39 := Tryz.underlying91
  a39 := Tryz.isAgg91
  z39 := Tryz.sizeOf91
  v39 := Tryz.zeroValue91
  t45 := Tryz.underlying103
  a45 := Tryz.isAgg103
  z45 := Tryz.sizeOf103
  v45 := Tryz.zeroValue103
  t46 := Tryz.underlying104
  a46 := Tryz.isAgg104
  z46 := Tryz.sizeOf104
  v46 := Tryz.zeroValue104
  t50 := Tryz.underlying108
  a50 := Tryz.isAgg108
  z50 := Tryz.sizeOf108
  v50 := Tryz.zeroValue108
  t53 := Tryz.underlying111
  a53 := Tryz.isAgg111
  z53 := Tryz.sizeOf111
  v53 := Tryz.zeroValue111
  t55 := Tryz.underlying113
  a55 := Tryz.isAgg113
  z55 := Tryz.sizeOf113
  v55 := Tryz.zeroValue113
  t66 := Tryz.underlying118
  a66 := Tryz.isAgg118
  z66 := Tryz.sizeOf118
  v66 := Tryz.zeroValue118
  t70 := Tryz.underlying122
  a70 := Tryz.isAgg122
  z70 := Tryz.sizeOf122
  v70 := Tryz.zeroValue122
  t76 := Tryz.underlying126
  a76 := Tryz.isAgg126
  z76 := Tryz.sizeOf126
  v76 := Tryz.zeroValue126
  t77 := Tryz.underlying127
  a77 := Tryz.isAgg127
  z77 := Tryz.sizeOf127
  v77 := Tryz.zeroValue127 }
end Go.Proofs
