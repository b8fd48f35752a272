/-
  Part RingTuned 1 of the texts that the statement's proof stands on: what memory holds, how code is walked, what the functions reckon. In the order in which they build.
-/

import Derived.Test.YtdbogmmdogjhpaaRd9
set_option linter.unusedVariables false
set_option linter.unusedSectionVars false
set_option maxRecDepth 20000
set_option maxHeartbeats 1000000
set_option linter.unusedVariables false
set_option linter.unusedSimpArgs false
namespace Go.Proofs.Ytdbogmmdogjhpaa
open Go Go.Sx
open Go.Rx (ixA)
open S
section
variable {h : Hunt} {l : List Filing} (v : Vd h l)
include v
theorem r_tin1 {s : Int} (h1 : 1 ≤ s) (h2 : s ≤ 6001) {good : List Int} (hg : good.length ≤ 1000) : Ret (P.law08_RingTuned_in1 s h l good) (· = (caught h l s, alarms h l good s)) := by
  have hlen := v.len
  have e1 := heads_len (h := h) (l := l) s
  have e2 := flat_len v s
  have hin : ∀ (xs : List Int), xs.length ≤ 24 → 0 ≤ (cn good xs).1 ∧ (cn good xs).1 ≤ 24 ∧ 0 ≤ (cn good xs).2 ∧ (cn good xs).2 ≤ 24 := fun xs hxs => by
    have := List.length_filter_le (fun x => decide (x ∈ good)) xs
    unfold cn
    dsimp only
    omega
  unfold P.law08_RingTuned_in1
  refine Ret.bindM (r_rgs v h1 h2) ?_
  rintro _ rfl
  refine Ret.condF rfl ?_
  rw [← cn_rgs v good s]
  generalize rgs h l s = R at e1 e2
  have hle := fun n => take_flat_len (xss := R) n
  refine Ret.bindM (Q' := fun r => r = cn good R.flatten) (Ret.upto R.length (fun n (t : Int × Int × Int) => t = ((cn good (R.take n).flatten).2, (n : Int), (cn good (R.take n).flatten).1)) rfl ?_ ?_) fun r hr => Ret.ok hr
  · rintro n hn _ rfl
    have e3 : (R.take (n + 1)).flatten = (R.take n).flatten ++ R[n] := take_flat hn
    have e4 := hle (n + 1)
    have e5 : (R.take (n + 1)).flatten.length = (R.take n).flatten.length + R[n].length := by rw [e3, List.length_append]
    dsimp only
    refine Ret.condT (lt_cast hn) <| Ret.bind <| ixR hn ?_
    refine Ret.bindM (Q' := fun r => r = cn good (R.take (n + 1)).flatten) (Ret.upto R[n].length (fun m (t : Int × Int × Int) => t = ((cn good ((R.take n).flatten ++ R[n].take m)).2, (m : Int), (cn good ((R.take n).flatten ++ R[n].take m)).1)) (by simp) ?_ ?_) ?_
    · rintro m hm _ rfl
      have hb2 := hin ((R.take n).flatten ++ R[n].take m) (by rw [List.length_append, List.length_take]; omega)
      dsimp only
      refine Ret.condT (lt_cast hm) <| Ret.bind <| ixR hm <| Ret.bind <| Ret.chk (by omega) <| Ret.bindM (r_member1 (by omega)) ?_
      rintro ⟨_, b⟩ hb
      have hb : b = decide (R[n][m] ∈ good) := hb
      subst hb
      dsimp only
      refine Ret.bindM (Q' := fun r => r = (cn good ((R.take n).flatten ++ R[n].take m)).2 + if R[n][m] ∈ good then 1 else 0) (Ret.cond (fun hc => Ret.bind <| Ret.chk (by omega) <| Ret.ok ?_) (fun hc => Ret.ok ?_)) ?_
      · rw [if_pos (of_decide_eq_true hc)]
      · rw [if_neg (of_decide_eq_false hc)]; omega
      · rintro _ rfl
        refine Ret.bind <| Ret.chk (by omega) <| Ret.next ?_
        rw [take_succ hm, ← List.append_assoc, cn_snoc]
        rfl
    · rintro _ rfl
      exact Ret.condF not_lt_cast <| Ret.done (by rw [List.take_length, e3])
    · rintro _ rfl
      exact Ret.bind <| Ret.chk (by omega) <| Ret.next rfl
  · rintro _ rfl
    exact Ret.condF not_lt_cast <| Ret.done (by rw [List.take_length])
end
theorem p_RingTuned (h : Hunt) (l : List Filing) (set most other : Int) (b3 : InK .u8 most) (b4 : InK .u16 other) : P.law08_RingTuned h l set most other = some true := by
  have b3 := InK.u8.1 b3
  have b4 := InK.u16.1 b4
  apply Ret.yes
  unfold P.law08_RingTuned
  refine Ret.bindM r_alive ?_
  rintro _ rfl
  refine Ret.bindM (Q' := fun b => b = false → Vd h l ∧ most ≤ 24) (Ret.bindM (r_ready h l 1) fun b hb => Ret.cond (fun _ => Ret.ok (fun e => by cases e)) (fun h1 => Ret.cond (fun _ => Ret.ok (fun e => by cases e)) (fun h2 => Ret.ok fun _ => ⟨(hb (by simpa using h1)).1, by have := of_decide_eq_false h2; omega⟩))) fun b hb => ?_
  refine Ret.cond (fun _ => Ret.ok rfl) (fun hg => ?_)
  obtain ⟨v, hm⟩ := hb hg
  have hlen := v.len
  refine Ret.bindM (Q' := fun r => ∃ L : List Nat, r = L.map (idA l) ∧ L.Pairwise (· < ·) ∧ ∀ a ∈ L, a < l.length) (Ret.upto l.length (fun n (t : Int × List Int) => ∃ L : List Nat, t = ((n : Int), L.map (idA l)) ∧ L.Pairwise (· < ·) ∧ ∀ a ∈ L, a < n) ⟨[], rfl, .nil, fun a h => by cases h⟩ ?_ ?_) ?_
  · rintro n hn _ ⟨L, rfl, hp, hL⟩
    have hLl : L.length ≤ n := nodup_len (hp.imp fun e => by omega) hL
    dsimp only
    refine Ret.condT (lt_cast hn) <| Ret.bind <| ixR hn <| Ret.bind <| Ret.val (show shrO set (n : Int) (IntKind.bits .u32) = some _ by unfold shrO; rw [if_pos (by omega)]) ?_
    refine Ret.bindM (Q' := fun r => ∃ L : List Nat, r = L.map (idA l) ∧ L.Pairwise (· < ·) ∧ ∀ a ∈ L, a < n + 1) (Ret.cond (fun hc => Ret.bind <| Ret.appo (by simp; omega) (by simp; omega) <| Ret.ok ⟨L ++ [n], ?_, ?_, ?_⟩) (fun hc => Ret.ok ⟨L, rfl, hp, fun a ha => by have := hL a ha; omega⟩)) ?_
    · rw [List.map_append, id_idA v hn]; rfl
    · exact List.pairwise_append.2 ⟨hp, List.pairwise_singleton _ _, fun a ha b hb => by rw [List.mem_singleton.1 hb]; exact hL a ha⟩
    · intro a ha
      rcases List.mem_append.1 ha with ha | ha
      · have := hL a ha; omega
      · rw [List.mem_singleton.1 ha]; omega
    · rintro _ ⟨L, rfl, hp, hL⟩
      exact Ret.bind <| Ret.chk (by omega) <| Ret.next ⟨L, rfl, hp, hL⟩
  · rintro _ ⟨L, rfl, hp, hL⟩
    exact Ret.condF not_lt_cast <| Ret.done ⟨L, rfl, hp, hL⟩
  rintro _ ⟨L, rfl, hp, hL⟩
  have hLl : L.length ≤ l.length := nodup_len (hp.imp fun e => by omega) hL
  generalize hgd : L.map (idA l) = good
  have hgl : good.length ≤ 1000 := by rw [← hgd, List.length_map]; omega
  have hG : Gd l good most := by
    refine ⟨?_, fun g hg => ?_, by omega, hm⟩
    · rw [← hgd]
      exact List.pairwise_map.2 (hp.imp_of_mem fun {a b} ha hb hab => idA_lt v hab (hL b hb))
    · rw [← hgd] at hg
      obtain ⟨a, ha, rfl⟩ := List.mem_map.1 hg
      exact idA_mem v (hL a ha)
  clear hgd
  refine Ret.bind <| Ret.chk (by omega) <| Ret.bindM (r_ringTune h (vd_len v) (vd_pl v) hgl most) ?_
  intro r hr
  obtain ⟨s, ⟨k1, k2, k3, k4⟩, rfl⟩ : ∃ s, Lst h l good most s ∧ r = (s, caught h l s, alarms h l good s, 0) := by
    rcases hr with ⟨a1, _⟩ | ⟨_, a2, _⟩ | ⟨_, _, a3⟩
    · exact absurd (check_iff.2 v) a1
    · exact absurd hG a2
    · exact a3
  have k0 : 0 ≤ alarms h l good s := by unfold alarms; omega
  dsimp only
  refine Ret.bindM (Q' := fun b => b = false) (Ret.condF rfl <| Ret.condF (decide_eq_false (by omega)) <| Ret.ok (decide_eq_false (by omega))) fun b hb => Ret.condF hb ?_
  refine Ret.bindM (r_tin1 v k1 k2 hgl) ?_
  rintro _ rfl
  dsimp only
  refine Ret.bindM (Q' := fun b => b = false) (Ret.condF (by simp) <| Ret.condF (by simp) <| Ret.bind <| Ret.chk (by omega) <| Ret.condF (decide_eq_false (by omega)) <| Ret.ok (decide_eq_false (by omega))) fun b hb => Ret.condF hb ?_
  refine Ret.bindM (Q' := fun r => r = Sum.inl ()) (Ret.cond (fun hc => ?_) (fun _ => Ret.ok rfl)) ?_
  · have hc := of_decide_eq_true hc
    refine Ret.bind <| Ret.chk (by omega) <| Ret.bind <| Ret.chk (by omega) <| Ret.bind <| Ret.remO (by omega) (by omega) ?_
    have hd1 := Int.emod_nonneg other (show (s - 1 : Int) ≠ 0 by omega)
    have hd2 := Int.emod_lt_of_pos other (show (0 : Int) < s - 1 by omega)
    generalize other % (s - 1) = d at hd1 hd2
    refine Ret.bind <| Ret.chk (by omega) <| Ret.bindM (r_tin1 v (s := 1 + d) (by omega) (by omega) hgl) ?_
    rintro _ rfl
    refine Ret.bind <| Ret.chk (by omega) <| Ret.bindM (r_tin1 v (s := s - 1) (by omega) (by omega) hgl) ?_
    rintro _ rfl
    have q1 := k4 (1 + d) (by omega) (by omega)
    have q2 := k4 (s - 1) (by omega) (by omega)
    dsimp only
    exact Ret.bindM (Q' := fun b => b = false) (Ret.bind <| Ret.chk (by omega) <| Ret.condF (decide_eq_false (by omega)) <| Ret.bind <| Ret.chk (by omega) <| Ret.ok (decide_eq_false (by omega))) fun b hb => Ret.condF hb <| Ret.ok rfl
  · rintro _ rfl
    exact Ret.elimL <| Ret.ok rfl
end Go.Proofs.Ytdbogmmdogjhpaa
