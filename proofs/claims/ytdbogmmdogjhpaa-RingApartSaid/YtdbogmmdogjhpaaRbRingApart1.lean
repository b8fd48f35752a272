/-
  Part RingApart 1 of the texts that the statement's proof stands on: what memory holds, how code is walked, what the functions reckon. In the order in which they build.
-/

import Derived.Test.YtdbogmmdogjhpaaRb9
set_option linter.unusedVariables false
set_option linter.unusedSectionVars false
set_option maxRecDepth 20000
set_option maxHeartbeats 1000000
set_option linter.unusedVariables false
set_option linter.unusedSimpArgs false
namespace Go.Proofs.Ytdbogmmdogjhpaa
open Go Go.Sx
open Go.Rx (ixA)
open S
section
variable {h : Hunt} {l : List Filing} (v : Vd h l)
include v
theorem idx_idA {a : Nat} (ha : a < l.length) : idx (ids l) (idA l a) = a := by
  obtain ⟨k, h1, h2, h3⟩ := idx_at (idA_mem v ha)
  have hk' : k < l.length := by simpa [ids] using h2
  have : k = a := idA_inj v hk' ha h3
  rw [h1, this]
theorem weight_ok {a b : Nat} (ha : a < l.length) (hb : b < l.length) (hne : a ≠ b) : Weight h l (idA l a) (idA l b) = (w h l a b, 0) := by
  unfold Weight
  rw [if_pos (check_iff.2 v), idx_idA v ha, idx_idA v hb, if_neg (by omega), if_neg (by omega)]
  rfl
theorem apart_ok {i : Nat} (hi : i < l.length) {s : Int} (h1 : 1 ≤ s) (h2 : s ≤ 6001) : Ret (P.ring_Apart h l (idA l i) s) fun r => ∃ n, Mx (w h l) (Out h l s i) n ∧ r = (grp h l s i, n, 0) := by
  refine (r_ringApart h (vd_len v) (vd_pl v) _ _).mono fun r hr => ?_
  rcases hr with ⟨a1, rfl⟩ | ⟨a1, a2, rfl⟩ | ⟨a1, a2, a3, rfl⟩ | ⟨a1, a2, j, n, a3, a4, a5, rfl⟩
  · exact absurd (check_iff.2 v) a1
  · exact absurd (idA_mem v hi) a2
  · rw [inB_iff.2 ⟨h1, h2⟩] at a3; cases a3
  · have := idA_inj v a3 hi a4
    subst this
    exact ⟨n, a5, rfl⟩
omit v in
theorem out_lt {s : Int} {i a b : Nat} (e : Out h l s i a b) : w h l a b < s := by
  obtain ⟨h1, h2, h3, h4⟩ := e
  refine Int.not_le.1 fun hle => h4 (h3.trans (Rc.ed ⟨h1, h2, hle⟩))
omit v in
theorem mx_lt {s : Int} (hs : 1 ≤ s) {i : Nat} {n : Int} (hn : Mx (w h l) (Out h l s i) n) : n < s := by
  rcases hn.2.2 with rfl | ⟨a, b, e, rfl⟩
  · omega
  · exact out_lt e
omit v in
theorem rc_down {s t n : Int} {i : Nat} (hi : i < l.length) (hn : Mx (w h l) (Out h l s i) n) (h1 : n < t) (h2 : t ≤ s) (k : Nat) : RC h l t i k ↔ RC h l s i k := by
  refine ⟨fun e => ?_, fun e => e.mono h2⟩
  refine Rc.ind (p := fun k => RC h l s i k) .refl (fun a b ha he => Classical.byContradiction fun hb => ?_) e
  have := hn.2.1 a b ⟨he.1, he.2.1, ha, hb⟩
  have := he.2.2
  omega
theorem grp_get {s : Int} {i t : Nat} (ht : t < (grp h l s i).length) : ∃ a, (gr h l s i)[t]? = some a ∧ a < l.length ∧ RC h l s i a ∧ (grp h l s i)[t]? = some (idA l a) := by
  have e : (grp h l s i)[t]? = ((gr h l s i)[t]?).map (idA l) := by unfold grp; rw [List.getElem?_map]
  rw [List.getElem?_eq_getElem ht] at e
  cases hf : (gr h l s i)[t]? with
  | none => rw [hf] at e; cases e
  | some a =>
    have hm := mem_gr.1 (List.mem_of_getElem? hf)
    exact ⟨a, rfl, hm.1, hm.2, by rw [List.getElem?_eq_getElem ht, e, hf]; rfl⟩
theorem r_in_grp {s : Int} {i b : Nat} (hb : b < l.length) {Q : Int × Bool → Prop} (q : ∀ r, (r.2 = true ↔ RC h l s i b) → Q r) : Ret (P.law08_member [grp h l s i] (idA l b)) Q := by
  have hlen := v.len
  have := grp_len v (s := s) (i := i)
  refine (r_member1 (by omega)).mono fun r hr => q r ?_
  rw [hr, decide_eq_true_iff]
  exact mem_grp v hb
end
theorem p_RingApart (h : Hunt) (l : List Filing) (strength which down : Int) (b3 : InK .u8 which) (b4 : InK .u16 down) : P.law08_RingApart h l strength which down = some true := by
  have b3 := InK.u8.1 b3
  have b4 := InK.u16.1 b4
  apply Ret.yes
  unfold P.law08_RingApart
  refine Ret.bindM r_alive ?_
  rintro _ rfl
  refine Ret.bindM (Q' := fun b => b = false → (Vd h l ∧ 1 ≤ strength ∧ strength ≤ 6001) ∧ 0 < l.length) (Ret.bindM (r_ready h l strength) fun b hb => Ret.cond (fun _ => Ret.ok (fun e => by cases e)) (fun h1 => Ret.cond (fun _ => Ret.ok (fun e => by cases e)) (fun h2 => Ret.ok fun _ => ⟨hb (by simpa using h1), by have := of_decide_eq_false h2; omega⟩))) fun b hb => ?_
  refine Ret.cond (fun _ => Ret.ok rfl) (fun hg => ?_)
  obtain ⟨⟨v, hs1, hs2⟩, h0⟩ := hb hg
  have hlen := v.len
  refine Ret.bind <| Ret.chk (by omega) <| Ret.bind <| Ret.remO (by omega) (by omega) ?_
  obtain ⟨i, hi, ei⟩ : ∃ i : Nat, i < l.length ∧ which % (l.length : Int) = i := ⟨(which % (l.length : Int)).toNat, by have := Int.emod_lt_of_pos which (show (0 : Int) < l.length by omega); have := Int.emod_nonneg which (show (l.length : Int) ≠ 0 by omega); omega, by have := Int.emod_nonneg which (show (l.length : Int) ≠ 0 by omega); omega⟩
  rw [ei]
  refine Ret.bind <| ixR hi ?_
  rw [id_idA v hi]
  refine Ret.bindM (apart_ok v hi hs1 hs2) ?_
  rintro _ ⟨n, hn, rfl⟩
  have hn0 := hn.1
  have hns := mx_lt hs1 hn
  refine Ret.bindM (Q' := fun b => b = false) (Ret.condF rfl <| Ret.condF (decide_eq_false (by omega)) <| Ret.ok (decide_eq_false (by omega))) fun b hb => Ret.condF hb ?_
  refine Ret.bind <| Ret.chk (by omega) <| Ret.bind <| Ret.chk (by omega) <| Ret.bind <| Ret.remO (by omega) (by omega) ?_
  have hd1 := Int.emod_nonneg down (show (strength - n : Int) ≠ 0 by omega)
  have hd2 := Int.emod_lt_of_pos down (show (0 : Int) < strength - n by omega)
  generalize down % (strength - n) = d at hd1 hd2
  refine Ret.bind <| Ret.chk (by omega) <| Ret.bindM (apart_ok v hi (s := strength - d) (by omega) (by omega)) ?_
  rintro _ ⟨n', hn', rfl⟩
  have hrc := rc_down hi hn (show n < strength - d by omega) (by omega)
  have hg2 : grp h l (strength - d) i = grp h l strength i := by
    unfold grp gr
    rw [fr_congr fun k _ => hrc k]
  have hnn : n' = n := hn'.uniq (hn.congr fun a b => by unfold S.Out; rw [hrc a, hrc b])
  subst hnn
  have hgl := grp_len v (s := strength) (i := i)
  rw [hg2]
  refine Ret.bindM (Q' := fun b => b = false) (Ret.condF rfl <| Ret.bindM (r_SameInts (by omega)) fun x hx => Ret.condF (by rw [hx]; simp) <| Ret.ok (by simp)) fun b hb => Ret.condF hb ?_
  refine Ret.bindM (Q' := fun r => r = Sum.inl (grp h l strength i, n')) (Ret.upto (grp h l strength i).length (fun t (st : List Int × Int × List Int × Int) => ∃ m, st = (grp h l strength i, (t : Int), grp h l strength i, m) ∧ Mx (w h l) (fun a b => a ∈ (gr h l strength i).take t ∧ Out h l strength i a b) m) ⟨0, rfl, Mx.none fun a b e => by simpa using e.1⟩ ?_ ?_) ?_
  · rintro t ht _ ⟨m, rfl, hm⟩
    obtain ⟨a, e1, ha, e2, e3⟩ := grp_get v ht
    have htg : t < (gr h l strength i).length := (List.getElem?_eq_some_iff.1 e1).1
    have e1' : (gr h l strength i)[t] = a := (List.getElem?_eq_some_iff.1 e1).2
    dsimp only
    refine Ret.condT (lt_cast ht) <| Ret.bind <| Ret.ixo e3 ?_
    refine Ret.bindM (Q' := fun r => ∃ m', r = Sum.inl m' ∧ Mx (w h l) (fun x b => x ∈ (gr h l strength i).take (t + 1) ∧ Out h l strength i x b) m') (Ret.upto l.length (fun j (st : Int × Int) => st.1 = j ∧ Mx (w h l) (fun x b => (x ∈ (gr h l strength i).take t ∨ (x = a ∧ b < j)) ∧ Out h l strength i x b) st.2) ⟨rfl, hm.congr fun x b => by simp⟩ ?_ ?_) ?_
    · rintro j hj ⟨_, m⟩ ⟨rfl, hm⟩
      dsimp only at hm ⊢
      refine Ret.condT (lt_cast hj) ?_
      refine Ret.bindM (Q' := fun r => ∃ m', r = Sum.inl m' ∧ Mx (w h l) (fun x b => (x ∈ (gr h l strength i).take t ∨ (x = a ∧ b < j + 1)) ∧ Out h l strength i x b) m') (Ret.bind <| ixR hj ?_) ?_
      · rw [id_idA v hj]
        refine Ret.bind <| r_in_grp v hj fun r hr => Ret.cond (fun hc => Ret.ok ⟨m, rfl, hm.congr fun x b => ?_⟩) (fun hc => ?_)
        · have h1 := hr.1 hc
          refine ⟨fun ⟨e, o⟩ => ⟨e.imp (fun e => e) fun e => ⟨e.1, by omega⟩, o⟩, fun ⟨e, o⟩ => ⟨e.imp (fun e => e) fun e => ⟨e.1, ?_⟩, o⟩⟩
          by_cases e4 : b = j
          · rw [e4] at o; exact absurd h1 o.2.2.2
          · omega
        · have h1 : ¬ RC h l strength i j := fun e => by rw [hr.2 e] at hc; cases hc
          have hne : a ≠ j := fun e => h1 (e ▸ e2)
          refine Ret.bindM (r_ringWeight h (vd_len v) (vd_pl v) _ _) ?_
          rintro _ rfl
          rw [weight_ok v ha hj hne]
          refine Ret.condF rfl <| Ret.ok ⟨_, rfl, hm.add fun x b => ?_⟩
          constructor
          · rintro ⟨e | ⟨e3, e4⟩, o⟩
            · exact .inl ⟨.inl e, o⟩
            · by_cases e5 : b = j
              · exact .inr ⟨e3, e5⟩
              · exact .inl ⟨.inr ⟨e3, by omega⟩, o⟩
          · rintro (⟨e | ⟨e3, e4⟩, o⟩ | ⟨e3, e4⟩)
            · exact ⟨.inl e, o⟩
            · exact ⟨.inr ⟨e3, by omega⟩, o⟩
            · exact ⟨.inr ⟨e3, by omega⟩, by rw [e3, e4]; exact ⟨ha, hj, e2, h1⟩⟩
      · rintro _ ⟨m', rfl, hm'⟩
        exact Ret.elimL <| Ret.bind <| Ret.chk (by omega) <| Ret.next ⟨rfl, hm'⟩
    · rintro ⟨_, m⟩ ⟨rfl, hm⟩
      dsimp only at hm ⊢
      refine Ret.condF not_lt_cast <| Ret.done ⟨m, rfl, hm.congr fun x b => ?_⟩
      rw [take_succ htg, List.mem_append, List.mem_singleton, e1']
      exact ⟨fun ⟨e, o⟩ => ⟨e.imp (fun e => e) fun e => e.1, o⟩, fun ⟨e, o⟩ => ⟨e.imp (fun e => e) fun e => ⟨e, o.2.1⟩, o⟩⟩
    · rintro _ ⟨m', rfl, hm'⟩
      exact Ret.elimL <| Ret.bind <| Ret.chk (by omega) <| Ret.next ⟨m', rfl, hm'⟩
  · rintro _ ⟨m, rfl, hm⟩
    dsimp only
    refine Ret.condF not_lt_cast <| Ret.done ?_
    have : m = n' := Mx.uniq (hm.congr fun a b => ⟨fun e => e.2, fun e => ⟨?_, e⟩⟩) hn
    · rw [this]
    · have e2 : (grp h l strength i).length = (gr h l strength i).length := by unfold grp; rw [List.length_map]
      rw [e2, List.take_length]
      exact mem_gr.2 ⟨e.1, e.2.2.1⟩
  · rintro _ rfl
    refine Ret.elimL ?_
    dsimp only
    refine Ret.condF (by simp) <| Ret.cond (fun _ => Ret.ok rfl) (fun hz => ?_)
    have hz := of_decide_eq_false hz
    refine Ret.bindM (apart_ok v hi (s := n') (by omega) (by omega)) ?_
    rintro _ ⟨n2, hn2, rfl⟩
    refine Ret.bindM (Q' := fun b => b = true) (Ret.condT rfl <| Ret.condT rfl <| Ret.ok (decide_eq_true ?_)) fun b hb => Ret.ok hb
    rcases hn.2.2 with e | ⟨a, b, ⟨o1, o2, o3, o4⟩, e⟩
    · exact absurd e hz
    · have : (gr h l strength i).length < (gr h l n' i).length := fr_less (fun k _ hk' => hk'.mono (by omega)) o2 ((o3.mono (by omega)).trans (Rc.ed ⟨o1, o2, by omega⟩)) o4
      dsimp only
      unfold grp
      rw [List.length_map, List.length_map]
      omega
end Go.Proofs.Ytdbogmmdogjhpaa
