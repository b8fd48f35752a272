/-
  Part 9 of the texts that the statement's proof stands on: what memory holds, how code is walked, what the functions reckon. In the order in which they build.
-/

import Derived.Test.YtdbogmmdogjhpaaRd8
set_option linter.unusedVariables false
set_option linter.unusedSectionVars false
set_option maxRecDepth 20000
set_option maxHeartbeats 1000000
set_option linter.unusedVariables false
set_option linter.unusedSimpArgs false
namespace Go.Proofs.Ytdbogmmdogjhpaa
open Go Go.Sx
open Go.Rx (ixA)
namespace S
def lf (f : FMap Int Bool) (k : Nat) : Prop := (f (k : Int)).getD false = true
def fdels (f : FMap Int Bool) (ys : List Nat) : FMap Int Bool := fun k => if k ∈ zl ys then none else f k
def evy (n : Nat) : FMap Int Bool := fun k => if 0 ≤ k ∧ k < n then some true else none
theorem mem_zl {k : Nat} {ys : List Nat} : (k : Int) ∈ zl ys ↔ k ∈ ys := by
  unfold zl
  rw [List.mem_map]
  exact ⟨fun ⟨a, h1, h2⟩ => by have : a = k := by omega
                               exact this ▸ h1, fun h => ⟨k, h, rfl⟩⟩
theorem lf_dels {f : FMap Int Bool} {ys : List Nat} {k : Nat} : lf (fdels f ys) k ↔ lf f k ∧ k ∉ ys := by
  unfold lf fdels
  by_cases e : k ∈ ys
  · rw [if_pos (mem_zl.2 e)]; simp [e]
  · rw [if_neg (fun h => e (mem_zl.1 h))]; simp [e]
theorem fdels_app {f : FMap Int Bool} {ys zs : List Nat} : fdels (fdels f ys) zs = fdels f (ys ++ zs) := by
  funext k
  unfold fdels
  have : zl (ys ++ zs) = zl ys ++ zl zs := by simp [zl]
  simp only [this, List.mem_append]
  by_cases e : k ∈ zl zs
  · simp [e]
  · by_cases e2 : k ∈ zl ys <;> simp [e, e2]
theorem fdels_one {f : FMap Int Bool} {i : Nat} : fdel f (i : Int) = fdels f [i] := by
  funext k
  unfold fdel fdels
  simp [zl]
theorem fdels_congr {f : FMap Int Bool} {ys zs : List Nat} (h : ∀ k, k ∈ ys ↔ k ∈ zs) : fdels f ys = fdels f zs := by
  funext k
  unfold fdels
  have : k ∈ zl ys ↔ k ∈ zl zs := by
    unfold zl
    simp only [List.mem_map, h]
  by_cases e : k ∈ zl ys
  · rw [if_pos e, if_pos (this.1 e)]
  · rw [if_neg e, if_neg (fun x => e (this.2 x))]
theorem lf_evy {n k : Nat} : lf (evy n) k ↔ k < n := by
  unfold lf evy
  by_cases e : k < n
  · rw [if_pos (by omega)]; simp [e]
  · rw [if_neg (by omega)]; simp [e]
end S
open S
section
variable {h : Hunt} {l : List Filing} (v : Vd h l)
include v
theorem r_vtest {s : Int} {i k : Nat} {f : FMap Int Bool} (hi : i < l.length) (hk' : k < l.length) {Q : Bool → Prop} (q : ∀ b, (b = true ↔ lf f k ∧ s ≤ wm h l i k) → Q b) : Ret (vtest (hk h l) s i k f) Q := by
  have hlen := v.len
  unfold vtest
  refine Ret.cond (fun hc => ?_) (fun hc => Ret.ok (q _ ?_))
  · refine Ret.bind <| r_ixA (by omega) <| Ret.bind <| r_ixA (by omega) <| Ret.bind <| r_tab (by omega) (by omega) <| Ret.ok (q _ ?_)
    rw [decide_eq_true_iff]
    exact ⟨fun e => ⟨hc, e⟩, fun e => e.2⟩
  · exact ⟨(fun e => by cases e), fun e => by have := e.1; unfold lf at this; rw [hc] at this; cases this⟩
theorem r_visit {s : Int} (hs : 1 ≤ s) : ∀ (n i : Nat) (f : FMap Int Bool) (x0 : List Nat), i < l.length → (fr (lf (fdel f i)) l.length).length < n → x0.Nodup → (∀ y ∈ x0, y < l.length ∧ ¬ lf f y ∧ y ≠ i) →
    Ret (P.visit (hk h l) s n i f (zl x0)) fun r => ∃ ys : List Nat, r.2 = zl (x0 ++ ys) ∧ r.1 = fdels f ys ∧ ys.Nodup ∧ i ∈ ys ∧ (∀ y ∈ ys, y < l.length ∧ RC h l s i y ∧ (y = i ∨ lf f y)) ∧ ∀ y ∈ ys, ∀ k, Ed l.length (w h l) s y k → y ≠ k → ¬ lf (fdels f ys) k := by
  have hlen := v.len
  intro n
  induction n with
  | zero => intro i f x0 _ hn; omega
  | succ n ih =>
    intro i f x0 hi hn hx hx0
    have hxl : x0.length ≤ l.length := nodup_len hx fun y hy => (hx0 y hy).1
    unfold P.visit
    have e1 : zl x0 ++ [(i : Int)] = zl (x0 ++ [i]) := zl_snoc x0 i
    refine Ret.bind <| Ret.appo (by simp [zl]; omega) (by simp [zl]; omega) ?_
    rw [e1, fdels_one]
    refine Ret.upto l.length (fun t (st : Int × FMap Int Bool × List Int) => ∃ ys : List Nat, st = ((t : Int), fdels f ys, zl (x0 ++ ys)) ∧ ys.Nodup ∧ i ∈ ys ∧ (∀ y ∈ ys, y < l.length ∧ RC h l s i y ∧ (y = i ∨ lf f y)) ∧ (∀ y ∈ ys, y ≠ i → ∀ k, Ed l.length (w h l) s y k → y ≠ k → ¬ lf (fdels f ys) k) ∧ ∀ k < t, Ed l.length (w h l) s i k → i ≠ k → ¬ lf (fdels f ys) k) ⟨[i], rfl, by simp, by simp, fun y hy => ?_, fun y hy hne => absurd (List.mem_singleton.1 hy) hne, fun k hk => by omega⟩ ?_ ?_
    · rw [List.mem_singleton.1 hy]; exact ⟨hi, .refl, .inl rfl⟩
    · rintro t ht _ ⟨ys, rfl, hnd, hiy, hall, hcl, hcl2⟩
      dsimp only
      refine Ret.condT (by rw [hk_ids]; exact lt_cast ht) <| Ret.bind <| r_vtest v hi ht fun b hb => ?_
      refine Ret.bindM (Q' := fun r => ∃ ys : List Nat, r = (fdels f ys, zl (x0 ++ ys)) ∧ ys.Nodup ∧ i ∈ ys ∧ (∀ y ∈ ys, y < l.length ∧ RC h l s i y ∧ (y = i ∨ lf f y)) ∧ (∀ y ∈ ys, y ≠ i → ∀ k, Ed l.length (w h l) s y k → y ≠ k → ¬ lf (fdels f ys) k) ∧ ∀ k < t + 1, Ed l.length (w h l) s i k → i ≠ k → ¬ lf (fdels f ys) k) (Ret.cond (fun hc => ?_) (fun hc => ?_)) ?_
      · obtain ⟨hl, hw⟩ := hb.1 hc
        obtain ⟨hne, hw⟩ := (wm_le hs).1 hw
        have he : Ed l.length (w h l) s i t := ⟨hi, ht, hw⟩
        obtain ⟨hl0, hty⟩ := lf_dels.1 hl
        have hfu : (fr (lf (fdel (fdels f ys) t)) l.length).length < n := by
          have h1 : (fr (lf (fdel (fdels f ys) t)) l.length).length < (fr (lf (fdels f ys)) l.length).length := fr_less (fun k _ hk => by rw [fdels_one] at hk; exact (lf_dels.1 hk).1) ht hl fun hk => by
            rw [fdels_one] at hk
            exact (lf_dels.1 hk).2 (List.mem_singleton.2 rfl)
          have h2 : (fr (lf (fdels f ys)) l.length).length ≤ (fr (lf (fdel f i)) l.length).length := fr_sub fun k _ hk => by
            rw [fdels_one]
            have := lf_dels.1 hk
            exact lf_dels.2 ⟨this.1, fun e => this.2 (by rw [List.mem_singleton.1 e]; exact hiy)⟩
          omega
        have hxy : (x0 ++ ys).Nodup := List.nodup_append.2 ⟨hx, hnd, fun a ha b hb e => by
          subst e
          rcases (hall a hb).2.2 with e | e
          · exact (hx0 a ha).2.2 e
          · exact (hx0 a ha).2.1 e⟩
        refine (ih t (fdels f ys) (x0 ++ ys) ht hfu hxy fun y hy => ?_).mono ?_
        · rcases List.mem_append.1 hy with hy | hy
          · exact ⟨(hx0 y hy).1, fun e => (hx0 y hy).2.1 (lf_dels.1 e).1, fun e => (hx0 y hy).2.1 (e ▸ hl0)⟩
          · exact ⟨(hall y hy).1, fun e => (lf_dels.1 e).2 hy, fun e => hty (e ▸ hy)⟩
        · rintro ⟨r1, r2⟩ ⟨zs, h1, h2, h3, h4, h5, h6⟩
          dsimp only at h1 h2
          subst h1 h2
          rw [fdels_app] at h6 ⊢
          have mono : ∀ k, lf (fdels f (ys ++ zs)) k → lf (fdels f ys) k := fun k hk => by
            have := lf_dels.1 hk
            exact lf_dels.2 ⟨this.1, fun e => this.2 (List.mem_append_left _ e)⟩
          refine ⟨ys ++ zs, by rw [List.append_assoc], List.nodup_append.2 ⟨hnd, h3, fun a ha b hb e => ?_⟩, List.mem_append_left _ hiy, fun y hy => ?_, fun y hy hyi k hek hyk => ?_, fun k hk hek hik => ?_⟩
          · subst e
            rcases (h5 a hb).2.2 with e | e
            · exact hty (e ▸ ha)
            · exact (lf_dels.1 e).2 ha
          · rcases List.mem_append.1 hy with hy | hy
            · exact hall y hy
            · obtain ⟨a1, a2, a3⟩ := h5 y hy
              refine ⟨a1, (Rc.ed he).trans a2, .inr ?_⟩
              rcases a3 with a3 | a3
              · rw [a3]; exact hl0
              · exact (lf_dels.1 a3).1
          · rcases List.mem_append.1 hy with hy | hy
            · exact fun e => hcl y hy hyi k hek hyk (mono k e)
            · exact h6 y hy k hek hyk
          · by_cases e : k = t
            · subst e
              exact fun e => (lf_dels.1 e).2 (List.mem_append_right _ h4)
            · exact fun e2 => hcl2 k (by omega) hek hik (mono k e2)
      · refine Ret.ok ⟨ys, rfl, hnd, hiy, hall, hcl, fun k hk hek hik => ?_⟩
        by_cases e : k = t
        · subst e
          intro e2
          rw [hb.2 ⟨e2, (wm_le hs).2 ⟨hik, hek.2.2⟩⟩] at hc
          cases hc
        · exact hcl2 k (by omega) hek hik
      · rintro _ ⟨ys, rfl, hr⟩
        exact Ret.bind <| Ret.chk (by omega) <| Ret.next ⟨ys, rfl, hr⟩
    · rintro _ ⟨ys, rfl, hnd, hiy, hall, hcl, hcl2⟩
      dsimp only
      refine Ret.condF (by rw [hk_ids]; exact not_lt_cast) <| Ret.done ⟨ys, rfl, rfl, hnd, hiy, hall, fun y hy k hek hyk => ?_⟩
      by_cases e : y = i
      · subst e; exact hcl2 k hek.2.1 hek hyk
      · exact hcl y hy e k hek hyk
theorem zl_rise {xs : List Nat} (h : xs.Pairwise (· < ·)) : (zl xs).Pairwise (· < ·) := by
  unfold zl
  exact List.pairwise_map.2 (h.imp fun e => by omega)
theorem r_sortO {ys zs : List Nat} (hy : ys.Nodup) (hl : ys.length ≤ 1000000) (hz : zs.Pairwise (· < ·)) (hm : ∀ k, k ∈ ys ↔ k ∈ zs) : sortO (zl ys) = some (zl zs) := by
  unfold sortO
  rw [if_pos (by rw [zl_len]; omega)]
  congr 1
  have hp := List.mergeSort_perm (zl ys) fun a b => decide (a ≤ b)
  have h1 : ((zl ys).mergeSort fun a b => decide (a ≤ b)).Pairwise fun a b => decide (a ≤ b) = true := List.pairwise_mergeSort (fun a b c h1 h2 => by simp at *; omega) (fun a b => by simp; omega) _
  have h2 : ((zl ys).mergeSort fun a b => decide (a ≤ b)).Nodup := hp.nodup_iff.2 (by
    unfold zl
    exact List.pairwise_map.2 (hy.imp fun e h => e (by omega)))
  refine rise_eq ((h1.and h2).imp fun ⟨a, b⟩ => by simp at a; omega) (zl_rise v hz) fun a => ?_
  rw [hp.mem_iff]
  unfold zl
  simp only [List.mem_map, hm]
theorem r_group {s : Int} (hs : 1 ≤ s) {i : Nat} (hi : i < l.length) {f : FMap Int Bool} (hf : lf f i) (hc : ∀ a b, b < l.length → lf f a → RC h l s a b → lf f b) : Ret (P.ring_hunt_group (hk h l) i s f) (· = (zl (gr h l s i), fdels f (gr h l s i))) := by
  have hlen := v.len
  unfold P.ring_hunt_group
  have h0 := fr_len (p := lf (fdel f i)) (n := l.length)
  refine Ret.bindM (r_visit v hs 30 i f [] hi (by omega) List.nodup_nil (fun _ h => by cases h)) ?_
  rintro ⟨r1, r2⟩ ⟨ys, h1, h2, h3, h4, h5, h6⟩
  dsimp only at h1 h2 ⊢
  rw [List.nil_append] at h1
  subst h1 h2
  have hm : ∀ k, k ∈ ys ↔ k ∈ gr h l s i := fun k => by
    refine ⟨fun hk => mem_gr.2 ⟨(h5 k hk).1, (h5 k hk).2.1⟩, fun hk => ?_⟩
    obtain ⟨hk1, hk2⟩ := mem_gr.1 hk
    have key : k ∈ ys ∧ RC h l s i k := Rc.ind (p := fun k => k ∈ ys ∧ RC h l s i k) ⟨h4, .refl⟩ (fun a b ⟨ha, hr⟩ he => by
      have hr2 : RC h l s i b := hr.trans (Rc.ed he)
      refine ⟨?_, hr2⟩
      by_cases e : a = b
      · exact e ▸ ha
      · exact Classical.byContradiction fun hn => h6 a ha b he e (lf_dels.2 ⟨hc i b he.2.1 hf hr2, hn⟩)) hk2
    exact key.1
  have hl2 := nodup_len h3 fun y hy => (h5 y hy).1
  refine Ret.bind <| Ret.val (r_sortO v h3 (by omega) fr_lt hm) <| Ret.ok ?_
  rw [fdels_congr hm]
  rfl
theorem r_everyone : Ret (P.ring_hunt_everyone (hk h l)) (· = evy l.length) := by
  have hlen := v.len
  unfold P.ring_hunt_everyone
  refine Ret.bindM (Q' := fun r => r = evy l.length) (Ret.upto l.length (fun n (t : Int × FMap Int Bool) => t = ((n : Int), evy n)) ?_ ?_ ?_) fun r hr => Ret.ok hr
  · show ((0 : Int), _) = (((0 : Nat) : Int), _)
    congr 1
    funext k
    unfold fnone evy
    rw [if_neg (by omega)]
  · rintro n hn _ rfl
    dsimp only
    refine Ret.condT (by rw [hk_ids]; exact lt_cast hn) <| Ret.bind <| Ret.chk (by omega) <| Ret.next ?_
    show ((n : Int) + 1, _) = (((n + 1 : Nat) : Int), _)
    congr 1
    funext k
    unfold fput evy
    by_cases e : k = n
    · rw [if_pos e, if_pos (by omega)]
    · rw [if_neg e]
      by_cases e2 : 0 ≤ k ∧ k < n
      · rw [if_pos e2, if_pos (by omega)]
      · rw [if_neg e2, if_neg (by omega)]
  · rintro _ rfl
    exact Ret.condF (by rw [hk_ids]; exact not_lt_cast) <| Ret.done rfl
theorem r_named {p : List Nat} (hp : ∀ k ∈ p, k < l.length) (hl : p.length ≤ 1000000) : Ret (P.ring_hunt_named (hk h l) (zl p)) (· = p.map (idA l)) := by
  unfold P.ring_hunt_named
  refine Ret.bindM (Q' := fun r => r = p.map (idA l)) (Ret.upto p.length (fun n (t : Int × List Int) => t = ((n : Int), (p.take n).map (idA l))) rfl ?_ ?_) fun r hr => Ret.ok hr
  · rintro n hn _ rfl
    dsimp only
    refine Ret.condT (by rw [zl_len]; exact lt_cast hn) <| Ret.bind <| Ret.ixo (zl_get (List.getElem?_eq_getElem hn)) <| Ret.bind <| ids_at (hp _ (List.getElem_mem hn)) <| Ret.bind <| Ret.appo (by simp; omega) (by simp; omega) <| Ret.bind <| Ret.chk (by omega) <| Ret.next ?_
    rw [take_succ hn, List.map_append]
    rfl
  · rintro _ rfl
    exact Ret.condF (by rw [zl_len]; exact not_lt_cast) <| Ret.done (by rw [List.take_length])
theorem r_ringRings0 {s : Int} (hs : 1 ≤ s) : Ret (P.ring_hunt_rings (hk h l) s) (· = rgs h l s) := by
  have hlen := v.len
  unfold P.ring_hunt_rings
  refine Ret.bindM (r_everyone v) ?_
  rintro _ rfl
  refine Ret.bindM (Q' := fun r => r = rgs h l s) (Ret.upto l.length (fun n (t : Int × List (List Int) × FMap Int Bool) => ∃ f, t = ((n : Int), (fr (Head h l s) n).map (grp h l s), f) ∧ ∀ k, lf f k ↔ k < l.length ∧ ∀ j < n, ¬ RC h l s j k) ⟨_, rfl, fun k => by rw [lf_evy]; exact ⟨fun e => ⟨e, fun j hj => by omega⟩, fun e => e.1⟩⟩ ?_ ?_) fun r hr => Ret.ok hr
  · rintro n hn _ ⟨f, rfl, hf⟩
    have hfl := fr_len (p := Head h l s) (n := n)
    dsimp only
    refine Ret.condT (by rw [hk_ids]; exact lt_cast hn) ?_
    refine Ret.bindM (Q' := fun r => ∃ f, r = ((fr (Head h l s) (n + 1)).map (grp h l s), f) ∧ ∀ k, lf f k ↔ k < l.length ∧ ∀ j < n + 1, ¬ RC h l s j k) (Ret.cond (fun hc => Ret.ok ?_) (fun hc => ?_)) ?_
    · have hnl : ¬ lf f n := fun e => by unfold lf at e; rw [e] at hc; cases hc
      have hex : ∃ j < n, RC h l s j n := Classical.byContradiction fun hne => hnl ((hf n).2 ⟨hn, fun j hj hr => hne ⟨j, hj, hr⟩⟩)
      obtain ⟨j, hj, hr⟩ := hex
      refine ⟨f, by rw [fr_out fun e => e.1 j hj (hr.sym v.wcomm)], fun k => (hf k).trans ⟨fun e => ⟨e.1, fun a ha => ?_⟩, fun e => ⟨e.1, fun a ha => e.2 a (by omega)⟩⟩⟩
      by_cases e2 : a = n
      · subst e2; exact fun e3 => e.2 j hj (hr.trans e3)
      · exact e.2 a (by omega)
    · have hln : lf f n := by unfold lf; simpa using hc
      have hh : ∀ j < n, ¬ RC h l s n j := fun j hj hr => ((hf n).1 hln).2 j hj (hr.sym v.wcomm)
      refine Ret.bindM (r_group v hs hn hln fun a b hb ha hr => (hf b).2 ⟨hb, fun j hj e => ((hf a).1 ha).2 j hj (e.trans (hr.sym v.wcomm))⟩) ?_
      rintro _ rfl
      have hgl : (gr h l s n).length ≤ l.length := fr_len
      have hfin : ∀ k, lf (fdels f (gr h l s n)) k ↔ k < l.length ∧ ∀ j < n + 1, ¬ RC h l s j k := fun k => by
        rw [lf_dels, hf k]
        refine ⟨fun ⟨⟨e1, e2⟩, e3⟩ => ⟨e1, fun j hj => ?_⟩, fun ⟨e1, e2⟩ => ⟨⟨e1, fun j hj => e2 j (by omega)⟩, fun e => e2 n (by omega) (mem_gr.1 e).2⟩⟩
        by_cases e4 : j = n
        · subst e4; exact fun e5 => e3 (mem_gr.2 ⟨e1, e5⟩)
        · exact e2 j (by omega)
      dsimp only
      refine Ret.bindM (Q' := fun r => r = (fr (Head h l s) (n + 1)).map (grp h l s)) (Ret.cond (fun hc2 => ?_) (fun hc2 => Ret.ok ?_)) ?_
      · have hc2 := of_decide_eq_true hc2
        rw [zl_len] at hc2
        refine Ret.bindM (r_named v (fun k hk => (mem_gr.1 hk).1) (by omega)) ?_
        rintro _ rfl
        refine Ret.bind <| Ret.appo (by simp; omega) (by simp; omega) <| Ret.ok ?_
        rw [fr_in (show Head h l s n from ⟨hh, hc2⟩), List.map_append]; rfl
      · have hc2 := of_decide_eq_false hc2
        rw [zl_len] at hc2
        rw [fr_out fun e => hc2 e.2]
      · rintro _ rfl
        exact Ret.ok ⟨_, rfl, hfin⟩
    · rintro _ ⟨f', rfl, hf'⟩
      exact Ret.bind <| Ret.chk (by omega) <| Ret.next ⟨f', rfl, hf'⟩
  · rintro _ ⟨f, rfl, hf⟩
    exact Ret.condF (by rw [hk_ids]; exact not_lt_cast) <| Ret.done rfl
end
theorem r_ringRings (h : Hunt) {l : List Filing} (hl : l.length ≤ 30) (hp : ∀ f ∈ l, f.parts.length ≤ 20) (s : Int) : Ret (P.ring_Rings h l s) (· = Rings h l s) := by
  unfold P.ring_Rings Rings
  refine Ret.bindM (r_open h hl hp) ?_
  rintro _ rfl
  by_cases hc : check h l = 0
  · rw [if_pos hc, if_pos hc]
    refine Ret.condF rfl <| Ret.bind <| r_in1 <| Ret.cond (fun h1 => Ret.ok ?_) (fun h1 => ?_)
    · rw [if_neg (by simpa using h1)]
    · have h1 : inB 1 6001 s = true := by simpa using h1
      rw [if_pos h1]
      exact Ret.bind <| Ret.ok <| Ret.bindM (r_ringRings0 (check_iff.1 hc) (inB_iff.1 h1).1) fun r hr => Ret.ok (by rw [hr])
  · rw [if_neg hc, if_neg hc]
    exact Ret.condT (by simpa using hc) <| Ret.ok rfl
end Go.Proofs.Ytdbogmmdogjhpaa
set_option maxRecDepth 20000
set_option maxHeartbeats 1000000
set_option linter.unusedVariables false
set_option linter.unusedSimpArgs false
namespace Go.Proofs.Ytdbogmmdogjhpaa
open Go Go.Sx
open Go.Rx (ixA)
theorem r_anyM {S κ α : Type} {f : S → κ × α → Option S} {m : FMap κ α} {l0 : List (κ × α)} (h0 : Lists m l0) {s0 : S} (Spec : S → Prop) (hall : ∀ l, Lists m l → ∃ s, l.foldlM f s0 = some s ∧ Spec s) (uniq : ∀ s s', Spec s → Spec s' → s = s') {Q : S → Prop} (h : ∀ s, Spec s → Q s) : Ret (anyM f m s0) Q := by
  obtain ⟨r, hr, hs⟩ := hall _ h0
  exact ⟨r, anyM_of h0 fun l hl => by
    obtain ⟨s, h1, h2⟩ := hall l hl
    rw [h1, uniq s r h2 hs], h r hs⟩
namespace S
/-- The greatest of some weights. -/
def Mx (W : Nat → Nat → Int) (p : Nat → Nat → Prop) (n : Int) : Prop := 0 ≤ n ∧ (∀ a b, p a b → W a b ≤ n) ∧ (n = 0 ∨ ∃ a b, p a b ∧ W a b = n)
theorem Mx.uniq {W : Nat → Nat → Int} {p : Nat → Nat → Prop} {n m : Int} (h1 : Mx W p n) (h2 : Mx W p m) : n = m := by
  obtain ⟨a1, a2, a3⟩ := h1
  obtain ⟨b1, b2, b3⟩ := h2
  have : n ≤ m := by
    rcases a3 with rfl | ⟨a, b, h, rfl⟩
    · exact b1
    · exact b2 a b h
  have : m ≤ n := by
    rcases b3 with rfl | ⟨a, b, h, rfl⟩
    · exact a1
    · exact a2 a b h
  omega
theorem Mx.congr {W : Nat → Nat → Int} {p q : Nat → Nat → Prop} {n : Int} (h1 : Mx W p n) (h : ∀ a b, p a b ↔ q a b) : Mx W q n :=
  ⟨h1.1, fun a b e => h1.2.1 a b ((h a b).2 e), h1.2.2.imp id fun ⟨a, b, e1, e2⟩ => ⟨a, b, (h a b).1 e1, e2⟩⟩
theorem Mx.none {W : Nat → Nat → Int} {p : Nat → Nat → Prop} (h : ∀ a b, ¬ p a b) : Mx W p 0 := ⟨Int.le_refl _, fun a b e => absurd e (h a b), .inl rfl⟩
theorem Mx.add {W : Nat → Nat → Int} {p q : Nat → Nat → Prop} {n : Int} {i k : Nat} (h1 : Mx W p n) (h : ∀ a b, q a b ↔ p a b ∨ (a = i ∧ b = k)) : Mx W q (max n (W i k)) := by
  obtain ⟨a1, a2, a3⟩ := h1
  refine ⟨by omega, fun a b e => ?_, ?_⟩
  · rcases (h a b).1 e with e | ⟨rfl, rfl⟩
    · have := a2 a b e; omega
    · omega
  · by_cases e : n < W i k
    · exact .inr ⟨i, k, (h i k).2 (.inr ⟨rfl, rfl⟩), by omega⟩
    · have e2 : max n (W i k) = n := by omega
      rw [e2]
      exact a3.imp id fun ⟨a, b, e1, e2⟩ => ⟨a, b, (h a b).2 (.inl e1), e2⟩
/-- Of the group, and not of it. -/
def Out (h : Hunt) (l : List Filing) (s : Int) (i : Nat) (a b : Nat) : Prop := a < l.length ∧ b < l.length ∧ RC h l s i a ∧ ¬ RC h l s i b
def Apart' (h : Hunt) (l : List Filing) (id s : Int) (r : List Int × Int × Int) : Prop :=
  (check h l ≠ 0 ∧ r = ([], 0, check h l)) ∨ (check h l = 0 ∧ id ∉ ids l ∧ r = ([], 0, 6)) ∨ (check h l = 0 ∧ id ∈ ids l ∧ inB 1 6001 s = false ∧ r = ([], 0, 2)) ∨
  (check h l = 0 ∧ inB 1 6001 s = true ∧ ∃ i n, i < l.length ∧ idA l i = id ∧ Mx (w h l) (Out h l s i) n ∧ r = (grp h l s i, n, 0))
theorem idx_at {xs : List Int} {v : Int} (h : v ∈ xs) : ∃ k : Nat, idx xs v = k ∧ k < xs.length ∧ xs.getD k 0 = v := by
  rcases idx_cases xs v with ⟨k, h1, hk, h2⟩ | ⟨_, h2⟩
  · exact ⟨k, h1, hk, by simp [List.getD, hk, h2]⟩
  · exact absurd h h2
end S
open S
theorem r_greatest {n y : Int} {Q : Int → Prop} (q : Q (max n y)) : Ret (P.ring_greatest n [y]) Q := by
  unfold P.ring_greatest
  refine Ret.bindM (Q' := fun r => r = max n y) (Ret.upto 1 (fun t (st : Int × Int) => st = (if t = 0 then n else max n y, (t : Int))) rfl ?_ ?_) fun r hr => Ret.ok (hr ▸ q)
  · rintro t ht _ rfl
    have : t = 0 := by omega
    subst this
    dsimp only
    refine Ret.condT (by simp) <| Ret.bind <| Ret.ixo (i := 0) (y := y) rfl <| Ret.bind <| Ret.chk (by omega) <| Ret.next ?_
    simp
  · rintro _ rfl
    exact Ret.condF (by simp) <| Ret.done (by simp)
section
variable {h : Hunt} {l : List Filing} (v : Vd h l)
include v
theorem r_stepA {i k : Nat} {n : Int} {Q : Int → Prop} (hi : i < l.length) (hk' : k < l.length) (q : Q (max n (wm h l i k))) : Ret (stepA (hk h l) i n k) Q := by
  have hlen := v.len
  unfold stepA
  exact Ret.bind <| r_ixA (by omega) <| Ret.bind <| r_ixA (by omega) <| Ret.bind <| r_tab (by omega) (by omega) <| Ret.bind <| r_greatest <| Ret.ok q
theorem r_farA {s : Int} {i a : Nat} (ha : a < l.length) {n : Int} {p : Nat → Nat → Prop} (hn : Mx (wm h l) p n) : Ret (farA (hk h l) (fdels (evy l.length) (gr h l s i)) a n) (Mx (wm h l) fun x b => p x b ∨ (x = a ∧ b < l.length ∧ b ∉ gr h l s i)) := by
  have hm : ∀ (k : Int) (y : Bool), fdels (evy l.length) (gr h l s i) k = some y ↔ ∃ b : Nat, k = b ∧ b < l.length ∧ b ∉ gr h l s i ∧ y = true := fun k y => by
    unfold fdels evy
    constructor
    · intro e
      split at e
      · cases e
      · rename_i h1
        split at e
        · rename_i h2
          refine ⟨k.toNat, by omega, by omega, fun h3 => h1 ?_, (Option.some.inj e).symm⟩
          have := mem_zl.2 h3
          rwa [show ((k.toNat : Nat) : Int) = k by omega] at this
        · cases e
    · rintro ⟨b, rfl, h1, h2, rfl⟩
      rw [if_neg (fun e => h2 (mem_zl.1 e)), if_pos (by omega)]
  unfold farA
  refine r_anyM (l0 := (fr (fun b => b ∉ gr h l s i) l.length).map fun (b : Nat) => ((b : Int), true)) ⟨?_, fun k y => ?_⟩ (Mx (wm h l) fun x b => p x b ∨ (x = a ∧ b < l.length ∧ b ∉ gr h l s i)) (fun L hL => ?_) (fun _ _ h1 h2 => h1.uniq h2) (fun _ h => h)
  · rw [List.map_map]
    exact List.pairwise_map.2 (fr_nodup.imp fun {a b} e h => e (by have h : (a : Int) = (b : Int) := h; omega))
  · rw [hm]
    simp only [List.mem_map, mem_fr]
    exact ⟨fun ⟨b, ⟨h1, h2⟩, e⟩ => by cases e; exact ⟨b, rfl, h1, h2, rfl⟩, fun ⟨b, h0, h1, h2, h3⟩ => ⟨b, ⟨h1, h2⟩, by rw [h0, h3]⟩⟩
  · have hin : ∀ x ∈ L, ∃ b : Nat, x.1 = b ∧ b < l.length ∧ b ∉ gr h l s i := fun x hx => by
      obtain ⟨b, h1, h2, h3, _⟩ := (hm x.1 x.2).1 ((hL.2 x.1 x.2).1 hx)
      exact ⟨b, h1, h2, h3⟩
    have key : ∀ (L : List (Int × Bool)) (n : Int) (p : Nat → Nat → Prop), (∀ x ∈ L, ∃ b : Nat, x.1 = b ∧ b < l.length ∧ b ∉ gr h l s i) → Mx (wm h l) p n → ∃ m, L.foldlM (fun n (y : Int × Bool) => stepA (hk h l) a n y.1) n = some m ∧ Mx (wm h l) (fun x b => p x b ∨ (x = a ∧ ((b : Int) ∈ L.map (·.1)))) m := by
      intro L
      induction L with
      | nil => exact fun n p _ hn => ⟨n, rfl, hn.congr fun a b => by simp⟩
      | cons x L ih =>
        intro n p hin hn
        obtain ⟨b, h1, h2, h3⟩ := hin x (List.mem_cons_self ..)
        obtain ⟨m, h4, h5⟩ := r_stepA v (n := n) (Q := fun m => m = max n (wm h l a b)) ha h2 rfl
        obtain ⟨m2, h6, h7⟩ := ih m (fun x c => p x c ∨ (x = a ∧ c = b)) (fun y hy => hin y (List.mem_cons_of_mem _ hy)) (h5 ▸ hn.add fun _ _ => Iff.rfl)
        refine ⟨m2, ?_, h7.congr fun c d => ?_⟩
        · rw [List.foldlM_cons, h1, h4]; exact h6
        · rw [List.map_cons, List.mem_cons, h1]
          constructor
          · rintro ((e | ⟨e1, e2⟩) | ⟨e1, e2⟩)
            · exact .inl e
            · exact .inr ⟨e1, .inl (by omega)⟩
            · exact .inr ⟨e1, .inr e2⟩
          · rintro (e | ⟨e1, e2 | e2⟩)
            · exact .inl (.inl e)
            · exact .inl (.inr ⟨e1, by omega⟩)
            · exact .inr ⟨e1, e2⟩
    obtain ⟨m, h1, h2⟩ := key L n p hin hn
    refine ⟨m, h1, h2.congr fun c d => ?_⟩
    have : (d : Int) ∈ L.map (·.1) ↔ d < l.length ∧ d ∉ gr h l s i := by
      rw [List.mem_map]
      constructor
      · rintro ⟨x, hx, e⟩
        obtain ⟨b, h1, h2, h3⟩ := hin x hx
        have : b = d := by omega
        exact this ▸ ⟨h2, h3⟩
      · rintro ⟨e1, e2⟩
        exact ⟨((d : Int), true), (hL.2 _ _).2 ((hm _ _).2 ⟨d, rfl, e1, e2, rfl⟩), rfl⟩
    rw [this]
theorem out_w {s : Int} {i : Nat} {n : Int} (hn : Mx (wm h l) (Out h l s i) n) : Mx (w h l) (Out h l s i) n := by
  have e : ∀ a b, Out h l s i a b → wm h l a b = w h l a b := fun a b ⟨_, _, h1, h2⟩ => by
    unfold wm
    rw [if_neg]
    rintro rfl
    exact h2 h1
  exact ⟨hn.1, fun a b h => by rw [← e a b h]; exact hn.2.1 a b h, hn.2.2.imp id fun ⟨a, b, h1, h2⟩ => ⟨a, b, h1, by rw [← e a b h1]; exact h2⟩⟩
theorem r_apartN {s : Int} {i : Nat} : Ret (apartN (hk h l) (fdels (evy l.length) (gr h l s i)) (zl (gr h l s i))) (Mx (w h l) (Out h l s i)) := by
  have hlen := v.len
  have hgl : (gr h l s i).length ≤ l.length := fr_len
  unfold apartN
  refine Ret.upto (gr h l s i).length (fun t (st : Int × Int) => st.1 = t ∧ Mx (wm h l) (fun a b => a ∈ (gr h l s i).take t ∧ b < l.length ∧ b ∉ gr h l s i) st.2) ⟨rfl, Mx.none fun a b e => by simpa using e.1⟩ ?_ ?_
  · rintro t ht ⟨_, n⟩ ⟨rfl, hn⟩
    have ha := mem_gr.1 (List.getElem_mem ht)
    dsimp only at hn ⊢
    refine Ret.condT (by rw [zl_len]; exact lt_cast ht) <| Ret.bind <| Ret.ixo (zl_get (List.getElem?_eq_getElem ht)) <| Ret.bindM (r_farA v ha.1 hn) fun m hm => Ret.bind <| Ret.chk (by omega) <| Ret.next ⟨rfl, hm.congr fun a b => ?_⟩
    rw [take_succ ht, List.mem_append, List.mem_singleton]
    constructor
    · rintro (⟨e1, e2⟩ | ⟨e1, e2⟩)
      · exact ⟨.inl e1, e2⟩
      · exact ⟨.inr e1, e2⟩
    · rintro ⟨e1 | e1, e2⟩
      · exact .inl ⟨e1, e2⟩
      · exact .inr ⟨e1, e2⟩
  · rintro ⟨_, n⟩ ⟨rfl, hn⟩
    dsimp only at hn ⊢
    refine Ret.condF (by rw [zl_len]; exact not_lt_cast) <| Ret.done (out_w v (hn.congr fun a b => ?_))
    rw [List.take_length, mem_gr, mem_gr]
    exact ⟨fun ⟨⟨e1, e2⟩, e3, e4⟩ => ⟨e1, e3, e2, fun e => e4 ⟨e3, e⟩⟩, fun ⟨e1, e2, e3, e4⟩ => ⟨⟨e1, e3⟩, e2, fun e => e4 e.2⟩⟩
theorem mem_grp {s : Int} {i a : Nat} (ha : a < l.length) : idA l a ∈ grp h l s i ↔ RC h l s i a := by
  unfold grp
  rw [List.mem_map]
  constructor
  · rintro ⟨k, hk', e⟩
    have h1 := mem_gr.1 hk'
    exact idA_inj v h1.1 ha e ▸ h1.2
  · exact fun e => ⟨a, mem_gr.2 ⟨ha, e⟩, rfl⟩
theorem grp_len {s : Int} {i : Nat} : (grp h l s i).length ≤ l.length := by unfold grp; rw [List.length_map]; exact fr_len
theorem ring_Apart0 (id s : Int) : Ret (P.ring_Apart h l id s) (Apart' h l id s) := by
  have hlen := v.len
  have hc : check h l = 0 := check_iff.2 v
  unfold P.ring_Apart
  refine Ret.bindM (r_open0 v) ?_
  rintro _ rfl
  refine Ret.condF rfl <| Ret.bind <| Ret.ok <| Ret.bindM (r_Index (v := id) (by rw [hk_ids]; omega)) ?_
  rintro _ rfl
  show Ret (cond (decide (idx (ids l) id < 0)) _ _) _
  by_cases hm : id ∈ ids l
  · obtain ⟨k, e1, e2, e3⟩ := idx_at hm
    have hk' : k < l.length := by simpa [ids] using e2
    rw [show idx (hk h l).ids id = (k : Int) from e1, e1]
    refine Ret.condF (by simp) <| Ret.bind <| r_in1 <| Ret.cond (fun h1 => Ret.ok ?_) (fun h1 => ?_)
    · exact .inr (.inr (.inl ⟨hc, hm, by simpa using h1, rfl⟩))
    · have h1 : inB 1 6001 s = true := by simpa using h1
      refine Ret.bindM (r_everyone v) ?_
      rintro _ rfl
      refine Ret.bindM (r_group v (inB_iff.1 h1).1 hk' (lf_evy.2 hk') fun a b hb _ _ => lf_evy.2 hb) ?_
      rintro _ rfl
      refine Ret.bindM (r_apartN v) fun n hn => ?_
      have hgl : (gr h l s k).length ≤ l.length := fr_len
      refine Ret.bindM (r_named v (fun a ha => (mem_gr.1 ha).1) (by omega)) ?_
      rintro _ rfl
      exact Ret.ok (.inr (.inr (.inr ⟨hc, h1, k, n, hk', e3, hn, rfl⟩)))
  · rw [idx_none hm]
    exact Ret.condT rfl <| Ret.ok (.inr (.inl ⟨hc, hm, rfl⟩))
end
theorem r_ringApart (h : Hunt) {l : List Filing} (hl : l.length ≤ 30) (hp : ∀ f ∈ l, f.parts.length ≤ 20) (id s : Int) : Ret (P.ring_Apart h l id s) (Apart' h l id s) := by
  by_cases hc : check h l = 0
  · exact ring_Apart0 (check_iff.1 hc) id s
  · unfold P.ring_Apart
    refine Ret.bindM (r_open h hl hp) ?_
    rintro _ rfl
    rw [if_neg hc]
    exact Ret.condT (by simpa using hc) <| Ret.ok (.inl ⟨hc, rfl⟩)
theorem Apart'.uniq {h : Hunt} {l : List Filing} {id s : Int} {r r' : List Int × Int × Int} (h1 : Apart' h l id s r) (h2 : Apart' h l id s r') : r = r' := by
  rcases h1 with ⟨a1, rfl⟩ | ⟨a1, a2, rfl⟩ | ⟨a1, a2, a3, rfl⟩ | ⟨a1, a2, i, n, a3, a4, a5, rfl⟩ <;> rcases h2 with ⟨b1, rfl⟩ | ⟨b1, b2, rfl⟩ | ⟨b1, b2, b3, rfl⟩ | ⟨b1, b2, j, m, b3, b4, b5, rfl⟩ <;> try first | rfl | exact absurd b1 a1 | exact absurd a1 b1 | exact absurd b2 a2 | exact absurd a2 b2
  · exact absurd (b4 ▸ (show idA l j ∈ ids l by unfold idA; rw [id_at b3]; exact List.mem_map_of_mem (List.getElem_mem b3))) a2
  · rw [b2] at a3; cases a3
  · exact absurd (a4 ▸ (show idA l i ∈ ids l by unfold idA; rw [id_at a3]; exact List.mem_map_of_mem (List.getElem_mem a3))) b2
  · rw [a2] at b3; cases b3
  · have : i = j := idA_inj (check_iff.1 a1) a3 b3 (a4.trans b4.symm)
    subst this
    rw [a5.uniq b5]
end Go.Proofs.Ytdbogmmdogjhpaa
set_option maxRecDepth 20000
set_option maxHeartbeats 1000000
set_option linter.unusedVariables false
set_option linter.unusedSimpArgs false
namespace Go.Proofs.Ytdbogmmdogjhpaa
open Go Go.Sx
open Go.Rx (ixA)
namespace S
def cg (h : Hunt) (l : List Filing) (s : Int) (k : Nat) : Prop := h.size ≤ ((gr h l s k).length : Int)
def cb (h : Hunt) (l : List Filing) (good : List Int) (s : Int) (k : Nat) : Prop := cg h l s k ∧ idA l k ∈ good
noncomputable def caught (h : Hunt) (l : List Filing) (s : Int) : Int := (fr (cg h l s) l.length).length
noncomputable def alarms (h : Hunt) (l : List Filing) (good : List Int) (s : Int) : Int := (fr (cb h l good s) l.length).length
def cn (good xs : List Int) : Int × Int := (xs.length, ((xs.filter fun x => decide (x ∈ good)).length : Nat))
theorem cn_snoc {good xs : List Int} {x : Int} : cn good (xs ++ [x]) = ((cn good xs).1 + 1, (cn good xs).2 + if x ∈ good then 1 else 0) := by
  unfold cn
  rw [List.filter_append]
  by_cases e : x ∈ good <;> simp [e]
theorem gr_mono {h : Hunt} {l : List Filing} {s t : Int} (hst : s ≤ t) (k : Nat) : (gr h l t k).length ≤ (gr h l s k).length := fr_sub fun a _ ha => ha.mono hst
theorem cg_mono {h : Hunt} {l : List Filing} {s t : Int} (hst : s ≤ t) {k : Nat} (hk' : cg h l t k) : cg h l s k := by
  have := gr_mono (h := h) (l := l) hst k
  unfold cg at *
  omega
theorem alarms_mono {h : Hunt} {l : List Filing} {good : List Int} {s t : Int} (hst : s ≤ t) : alarms h l good t ≤ alarms h l good s := by
  unfold alarms
  have : (fr (cb h l good t) l.length).length ≤ (fr (cb h l good s) l.length).length := fr_sub fun k _ hk' => ⟨cg_mono hst hk'.1, hk'.2⟩
  omega
def Lst (h : Hunt) (l : List Filing) (good : List Int) (most s : Int) : Prop := 1 ≤ s ∧ s ≤ 6001 ∧ alarms h l good s ≤ most ∧ ∀ t, 1 ≤ t → t < s → most < alarms h l good t
theorem Lst.uniq {h : Hunt} {l : List Filing} {good : List Int} {most s t : Int} (h1 : Lst h l good most s) (h2 : Lst h l good most t) : s = t := by
  obtain ⟨a1, a2, a3, a4⟩ := h1
  obtain ⟨b1, b2, b3, b4⟩ := h2
  rcases Int.lt_trichotomy s t with e | e | e
  · have := b4 s a1 e; omega
  · exact e
  · have := a4 t b1 e; omega
def Gd (l : List Filing) (good : List Int) (most : Int) : Prop := good.Pairwise (· < ·) ∧ (∀ g ∈ good, g ∈ ids l) ∧ 0 ≤ most ∧ most ≤ 24
def Tune' (h : Hunt) (l : List Filing) (good : List Int) (most : Int) (r : Int × Int × Int × Int) : Prop :=
  (check h l ≠ 0 ∧ r = (0, 0, 0, check h l)) ∨ (check h l = 0 ∧ ¬ Gd l good most ∧ r = (0, 0, 0, 2)) ∨ (check h l = 0 ∧ Gd l good most ∧ ∃ s, Lst h l good most s ∧ r = (s, caught h l s, alarms h l good s, 0))
theorem Tune'.uniq {h : Hunt} {l : List Filing} {good : List Int} {most : Int} {r r' : Int × Int × Int × Int} (h1 : Tune' h l good most r) (h2 : Tune' h l good most r') : r = r' := by
  rcases h1 with ⟨a1, rfl⟩ | ⟨a1, a2, rfl⟩ | ⟨a1, a2, s, a3, rfl⟩ <;> rcases h2 with ⟨b1, rfl⟩ | ⟨b1, b2, rfl⟩ | ⟨b1, b2, t, b3, rfl⟩ <;> first | rfl | exact absurd b1 a1 | exact absurd a1 b1 | exact absurd b2 a2 | exact absurd a2 b2 | skip
  rw [a3.uniq b3]
end S
open S
section
variable {h : Hunt} {l : List Filing} (v : Vd h l)
include v
theorem gr_same {s : Int} {i k : Nat} (e : RC h l s i k) : gr h l s i = gr h l s k := fr_congr fun a _ => ⟨fun x => (e.sym v.wcomm).trans x, fun x => e.trans x⟩
theorem rgs_flat (s : Int) : ∃ G : List Nat, (rgs h l s).flatten = G.map (idA l) ∧ G.Perm (fr (cg h l s) l.length) := by
  refine ⟨((fr (Head h l s) l.length).map (gr h l s)).flatten, ?_, ?_⟩
  · unfold rgs
    rw [List.map_flatten, List.map_map]
    rfl
  · refine (List.perm_ext_iff_of_nodup (List.pairwise_flatten.2 ⟨fun x hx => ?_, ?_⟩) fr_nodup).2 fun k => ?_
    · obtain ⟨i, _, rfl⟩ := List.mem_map.1 hx
      exact fr_nodup
    · refine List.pairwise_map.2 ?_
      refine (fr_lt (p := Head h l s) (n := l.length)).imp_of_mem fun {i j} hi hj hij => ?_
      rintro k hk1 _ hk2 rfl
      have h1 := (mem_gr.1 hk1).2
      have h2 := (mem_gr.1 hk2).2
      exact (mem_fr.1 hj).2.1 i hij (h2.trans (h1.sym v.wcomm))
    · rw [List.mem_flatten, mem_fr]
      constructor
      · rintro ⟨x, hx, hk'⟩
        obtain ⟨i, hi, rfl⟩ := List.mem_map.1 hx
        have h1 := mem_gr.1 hk'
        refine ⟨h1.1, ?_⟩
        unfold cg
        rw [← gr_same v h1.2]
        exact (mem_fr.1 hi).2.2
      · rintro ⟨hk1, hk2⟩
        obtain ⟨i, hi, hmin⟩ := least_ex (p := fun i => RC h l s i k) ⟨k, .refl⟩
        have hil : i < l.length := (hi.sym v.wcomm).lt hk1
        refine ⟨gr h l s i, List.mem_map.2 ⟨i, mem_fr.2 ⟨hil, fun j hj e => hmin j hj ((e.sym v.wcomm).trans hi), ?_⟩, rfl⟩, mem_gr.2 ⟨hk1, hi⟩⟩
        rw [gr_same v hi]
        exact hk2
theorem cn_rgs (good : List Int) (s : Int) : cn good (rgs h l s).flatten = (caught h l s, alarms h l good s) := by
  obtain ⟨G, h1, h2⟩ := rgs_flat v s
  rw [h1]
  unfold cn caught alarms
  have e1 : (G.map (idA l)).length = (fr (cg h l s) l.length).length := by rw [List.length_map, h2.length_eq]
  have e2 : ((G.map (idA l)).filter fun x => decide (x ∈ good)).length = (fr (cb h l good s) l.length).length := by
    rw [List.filter_map, List.length_map]
    have h3 := (h2.filter fun k => decide (idA l k ∈ good)).length_eq
    have h4 : (fr (cg h l s) l.length).filter (fun k => decide (idA l k ∈ good)) = fr (cb h l good s) l.length := by
      unfold fr
      rw [List.filter_filter]
      refine List.filter_congr fun k _ => ?_
      by_cases e1 : cg h l s k <;> by_cases e2 : idA l k ∈ good <;> simp [cb, e1, e2]
    rw [h4] at h3
    exact h3
  rw [e1, e2]
theorem flat_len (s : Int) : (rgs h l s).flatten.length ≤ l.length := by
  obtain ⟨G, h1, h2⟩ := rgs_flat v s
  rw [h1, List.length_map, h2.length_eq]
  exact fr_len
omit v in
theorem take_flat {xss : List (List Int)} {n : Nat} (hn : n < xss.length) : (xss.take (n + 1)).flatten = (xss.take n).flatten ++ xss[n] := by
  rw [take_succ hn, List.flatten_append]; simp
omit v in
theorem take_flat_len {xss : List (List Int)} (n : Nat) : (xss.take n).flatten.length ≤ xss.flatten.length := by
  have : xss.flatten = (xss.take n).flatten ++ (xss.drop n).flatten := by rw [← List.flatten_append, List.take_append_drop]
  rw [this, List.length_append]; omega
omit v in
theorem r_Concat {xss : List (List Int)} (h1 : xss.length ≤ 1000) (h2 : xss.flatten.length ≤ 1000) : Ret (P.slices_Concat_63 xss) (· = xss.flatten) := by
  unfold P.slices_Concat_63
  have hle := fun n => take_flat_len (xss := xss) n
  refine Ret.bindM (Q' := fun r => r = (xss.flatten.length : Int)) (Ret.upto xss.length (fun n (t : Int × Int) => t = ((n : Int), (((xss.take n).flatten.length : Nat) : Int))) (by simp) ?_ ?_) ?_
  · rintro n hn _ rfl
    have e1 := hle n
    have e2 := hle (n + 1)
    have e3 : (xss.take (n + 1)).flatten.length = (xss.take n).flatten.length + xss[n].length := by rw [take_flat hn, List.length_append]
    dsimp only
    refine Ret.condT (lt_cast hn) <| Ret.bind <| ixR hn <| Ret.bind <| Ret.chk (by omega) <| Ret.condF (decide_eq_false (by omega)) <| Ret.bind <| Ret.chk (by omega) <| Ret.next ?_
    rw [e3]; simp
  · rintro _ rfl
    exact Ret.condF not_lt_cast <| Ret.done (by rw [List.take_length])
  · rintro _ rfl
    refine Ret.bind <| Ret.val (show P.slices_Grow_74 () (xss.flatten.length : Int) = some [] by unfold P.slices_Grow_74; rw [if_pos (by omega)]) ?_
    refine Ret.bindM (Q' := fun r => r = xss.flatten) (Ret.upto xss.length (fun n (t : Int × List Int) => t = ((n : Int), (xss.take n).flatten)) (by simp) ?_ ?_) fun r hr => Ret.ok hr
    · rintro n hn _ rfl
      have e1 := hle n
      have e2 := hle (n + 1)
      have e3 : (xss.take (n + 1)).flatten.length = (xss.take n).flatten.length + xss[n].length := by rw [take_flat hn, List.length_append]
      dsimp only
      refine Ret.condT (lt_cast hn) <| Ret.bind <| ixR hn <| Ret.bind <| Ret.appo (by omega) (by omega) <| Ret.bind <| Ret.chk (by omega) <| Ret.next ?_
      rw [take_flat hn]; simp
    · rintro _ rfl
      exact Ret.condF not_lt_cast <| Ret.done (by rw [List.take_length])
omit v in
theorem heads_len (s : Int) : (rgs h l s).length ≤ l.length := by unfold rgs; rw [List.length_map]; exact fr_len
theorem r_count {s : Int} (hs : 1 ≤ s) {good : List Int} (hg : good.length ≤ 1000) : Ret (P.ring_Tune_in2 s (some (hk h l)) good) (· = (caught h l s, alarms h l good s)) := by
  have hlen := v.len
  have e1 := heads_len (h := h) (l := l) s
  have e2 := flat_len v s
  unfold P.ring_Tune_in2
  refine Ret.bind <| Ret.ok <| Ret.bindM (r_ringRings0 v hs) ?_
  rintro _ rfl
  refine Ret.bindM (r_Concat (by omega) (by omega)) ?_
  rintro _ rfl
  rw [← cn_rgs v good s]
  generalize (rgs h l s).flatten = xs at e2
  refine Ret.bindM (Q' := fun r => r = cn good xs) (Ret.upto xs.length (fun n (t : Int × Int × Int) => t = ((n : Int), cn good (xs.take n))) rfl ?_ ?_) fun r hr => Ret.ok hr
  · rintro n hn _ rfl
    have e3 : (cn good (xs.take n)).1 ≤ 24 ∧ 0 ≤ (cn good (xs.take n)).1 := by
      unfold cn
      dsimp only
      rw [List.length_take]; omega
    have e4 : (cn good (xs.take n)).2 ≤ 24 ∧ 0 ≤ (cn good (xs.take n)).2 := by
      have := List.length_filter_le (fun x => decide (x ∈ good)) (xs.take n)
      rw [List.length_take] at this
      unfold cn
      dsimp only
      omega
    dsimp only
    refine Ret.condT (lt_cast hn) <| Ret.bind <| ixR hn <| Ret.bind <| Ret.chk (by omega) <| Ret.bindM (r_Contains (by omega)) ?_
    rintro _ rfl
    refine Ret.bindM (Q' := fun r => r = (cn good (xs.take n)).2 + if xs[n] ∈ good then 1 else 0) (Ret.cond (fun hc => Ret.bind <| Ret.chk (by omega) <| Ret.ok ?_) (fun hc => Ret.ok ?_)) ?_
    · rw [if_pos (of_decide_eq_true hc)]
    · rw [if_neg (of_decide_eq_false hc)]; omega
    · rintro _ rfl
      refine Ret.bind <| Ret.chk (by omega) <| Ret.next ?_
      rw [take_succ hn, cn_snoc]
      rfl
  · rintro _ rfl
    exact Ret.condF not_lt_cast <| Ret.done (by rw [List.take_length]; rfl)
theorem rc_top {i k : Nat} (e : RC h l 6001 i k) : k = i := Rc.ind (p := fun k => k = i) rfl (fun a b ha he => by have := (v.win_ a b).2; have := he.2.2; omega) e
theorem alarms_top (good : List Int) : alarms h l good 6001 = 0 := by
  have hsz := v.siz
  unfold alarms
  have : fr (cb h l good 6001) l.length = [] := List.eq_nil_iff_forall_not_mem.2 fun k hk' => by
    have h1 := (mem_fr.1 hk').2.1
    unfold cg at h1
    have h2 : (gr h l 6001 k).length ≤ 1 := sub_len _ [k] fr_nodup fun x hx => List.mem_singleton.2 (rc_top v (mem_gr.1 hx).2)
    omega
  rw [this]; rfl
omit v in
theorem r_least {so : Int → Option Bool} {p : Int → Prop} (hso : ∀ s, 1 ≤ s → s ≤ 6001 → Ret (so s) fun b => b = true ↔ p s) (hp : ∀ s t, s ≤ t → p s → p t) (htop : p 6001) : Ret (P.ring_least_64 1 6001 so) fun r => 1 ≤ r ∧ r ≤ 6001 ∧ p r ∧ ∀ t, 1 ≤ t → t < r → ¬ p t := by
  unfold P.ring_least_64
  refine Ret.bindM (Q' := fun r => 1 ≤ r ∧ r ≤ 6001 ∧ p r ∧ ∀ t, 1 ≤ t → t < r → ¬ p t) (Ret.loop (fun (t : Int × Int) => 1 ≤ t.1 ∧ t.1 ≤ t.2 ∧ t.2 ≤ 6001 ∧ p t.2 ∧ ∀ x, 1 ≤ x → x < t.1 → ¬ p x) (fun t => (t.2 - t.1).toNat) ⟨by decide, by decide, by decide, htop, fun x h1 h2 => absurd h2 (by dsimp only; omega)⟩ ?_) fun r hr => Ret.ok hr
  rintro ⟨lo, hi⟩ ⟨h1, h2, h3, h4, h5⟩
  dsimp only at h1 h2 h3 h4 h5 ⊢
  refine Ret.cond (fun hc => ?_) (fun hc => Ret.done ?_)
  · have hc := of_decide_eq_true hc
    refine Ret.bind <| Ret.chk (by omega) <| Ret.bind <| Ret.quoO (by omega) (by omega) (by omega) <| Ret.bind <| Ret.chk (by omega) <| Ret.bindM (hso _ (by omega) (by omega)) fun b hb => ?_
    generalize hm : lo + (hi - lo) / 2 = m at hb
    have hm1 : lo ≤ m ∧ m < hi := by omega
    refine Ret.bindM (Q' := fun r => (1 ≤ r.1 ∧ r.1 ≤ r.2 ∧ r.2 ≤ 6001 ∧ p r.2 ∧ ∀ x, 1 ≤ x → x < r.1 → ¬ p x) ∧ (r.2 - r.1).toNat < (hi - lo).toNat) (Ret.cond (fun hc2 => Ret.ok ?_) (fun hc2 => Ret.bind <| Ret.chk (by omega) <| Ret.ok ?_)) fun r hr => Ret.next hr
    · exact ⟨⟨h1, by dsimp only; omega, by dsimp only; omega, hb.1 hc2, h5⟩, by dsimp only; omega⟩
    · refine ⟨⟨by dsimp only; omega, by dsimp only; omega, h3, h4, fun x hx1 hx2 hx3 => ?_⟩, by dsimp only; omega⟩
      dsimp only at hx2
      have := hb.2 (hp x m (by omega) hx3)
      rw [this] at hc2; cases hc2
  · have hc := of_decide_eq_false hc
    have : lo = hi := by omega
    subst this
    exact ⟨h1, h3, h4, h5⟩
omit v in
theorem gd_ring (hv : Vd h l) {good : List Int} : (rB (-1) good = true ∧ ∀ g ∈ good, g ∈ ids l) ↔ (good.Pairwise (· < ·) ∧ ∀ g ∈ good, g ∈ ids l) := by
  rw [rB_iff]
  refine ⟨fun ⟨h1, h2⟩ => ⟨h1.1, h2⟩, fun ⟨h1, h2⟩ => ⟨⟨h1, fun x hx => ?_⟩, h2⟩⟩
  obtain ⟨f, hf, e⟩ := List.mem_map.1 (h2 x hx)
  have := hv.idr f hf
  omega
theorem ring_Tune0 {good : List Int} (hg : good.length ≤ 1000) (most : Int) : Ret (P.ring_Tune h l good most) (Tune' h l good most) := by
  have hlen := v.len
  have hc : check h l = 0 := check_iff.2 v
  unfold P.ring_Tune
  refine Ret.bindM (r_open0 v) ?_
  rintro _ rfl
  refine Ret.condF rfl ?_
  refine Ret.bindM (Q' := fun b => b = false ↔ Gd l good most) (Ret.bindM (r_rising (by omega)) fun b hb => Ret.cond (fun h1 => Ret.ok ?_) (fun h1 => Ret.bind <| r_in1 <| Ret.cond (fun h2 => Ret.ok ?_) (fun h2 => ?_))) ?_
  · refine ⟨(fun e => by cases e), fun e => ?_⟩
    rw [hb, ((gd_ring v).2 ⟨e.1, e.2.1⟩).1] at h1; cases h1
  · refine ⟨(fun e => by cases e), fun e => ?_⟩
    rw [inB_iff.2 e.2.2] at h2; cases h2
  · refine Ret.bindM (r_ContainsFunc (fun x => !decide (x ∈ ids l)) (fun x hx => ?_) (by omega)) fun c hc2 => Ret.ok ?_
    · unfold P.ring_Tune_in1
      exact Ret.bind <| Ret.ok <| Ret.bindM (r_Contains (by rw [hk_ids]; omega)) fun c hc2 => Ret.ok (by rw [hc2]; rfl)
    · have h1 : rB (-1) good = true := by rw [← hb]; simpa using h1
      have h2 : inB 0 24 most = true := by simpa using h2
      rw [hc2]
      constructor
      · intro e
        have e2 : ∀ g ∈ good, g ∈ ids l := by simpa using e
        exact ⟨((gd_ring v).1 ⟨h1, e2⟩).1, e2, inB_iff.1 h2⟩
      · intro e
        have := e.2.1
        simpa using this
  · intro b hb
    refine Ret.cond (fun h1 => Ret.ok (.inr (.inl ⟨hc, (fun e => by rw [hb.2 e] at h1; cases h1), rfl⟩))) (fun h1 => ?_)
    have hgd := hb.1 h1
    have hcnt : ∀ s, 1 ≤ s → Ret (P.ring_Tune_in2 s (some (hk h l)) good) (· = (caught h l s, alarms h l good s)) := fun s hs => r_count v hs hg
    refine Ret.bindM (r_least (p := fun s => alarms h l good s ≤ most) (fun s hs _ => ?_) (fun s t hst e => by have := alarms_mono (h := h) (l := l) (good := good) hst; omega) (by rw [alarms_top v]; exact hgd.2.2.1)) ?_
    · unfold P.ring_Tune_in3
      refine Ret.bindM (hcnt s hs) ?_
      rintro _ rfl
      exact Ret.ok decide_eq_true_iff
    · rintro s ⟨h1, h2, h3, h4⟩
      refine Ret.bindM (hcnt s h1) ?_
      rintro _ rfl
      exact Ret.ok (.inr (.inr ⟨hc, hgd, s, ⟨h1, h2, h3, fun t ht1 ht2 => by have := h4 t ht1 ht2; omega⟩, rfl⟩))
end
theorem r_ringTune (h : Hunt) {l : List Filing} (hl : l.length ≤ 30) (hp : ∀ f ∈ l, f.parts.length ≤ 20) {good : List Int} (hg : good.length ≤ 1000) (most : Int) : Ret (P.ring_Tune h l good most) (Tune' h l good most) := by
  by_cases hc : check h l = 0
  · exact ring_Tune0 (check_iff.1 hc) hg most
  · unfold P.ring_Tune
    refine Ret.bindM (r_open h hl hp) ?_
    rintro _ rfl
    rw [if_neg hc]
    exact Ret.condT (by simpa using hc) <| Ret.ok (.inl ⟨hc, rfl⟩)
end Go.Proofs.Ytdbogmmdogjhpaa
set_option maxRecDepth 20000
set_option maxHeartbeats 1000000
set_option linter.unusedVariables false
set_option linter.unusedSimpArgs false
namespace Go.Proofs.Ytdbogmmdogjhpaa
open Go Go.Sx
open Go.Rx (ixA)
open S
theorem Rings_len (h : Hunt) {l : List Filing} (hl : l.length ≤ 30) (s : Int) : (Rings h l s).1.length ≤ 30 ∧ ∀ x ∈ (Rings h l s).1, x.length ≤ 30 := by
  unfold Rings
  split
  · rename_i hc
    split
    · have := heads_len (h := h) (l := l) s
      refine ⟨by dsimp only; omega, fun x hx => ?_⟩
      obtain ⟨i, _, rfl⟩ := List.mem_map.1 (show x ∈ (fr (Head h l s) l.length).map (grp h l s) from hx)
      have := grp_len (check_iff.1 hc) (s := s) (i := i)
      omega
    · exact ⟨Nat.zero_le _, fun x hx => by cases hx⟩
  · exact ⟨Nat.zero_le _, fun x hx => by cases hx⟩
end Go.Proofs.Ytdbogmmdogjhpaa
set_option maxRecDepth 20000
set_option maxHeartbeats 1000000
set_option linter.unusedVariables false
set_option linter.unusedSimpArgs false
namespace Go.Proofs.Ytdbogmmdogjhpaa
open Go Go.Sx
open Go.Rx (ixA)
namespace S
/-! Reckoning what is reached. -/
def rch (N : Nat) (W : Nat → Nat → Int) (s : Int) (i : Nat) : Nat → List Nat
  | 0 => [i]
  | n + 1 => (List.range N).filter fun k => (rch N W s i n).any fun j => decide (j = k) || decide (s ≤ W j k)
theorem mem_rch {N : Nat} {W : Nat → Nat → Int} {s : Int} {i : Nat} (hi : i < N) : ∀ {n k : Nat}, k ∈ rch N W s i n ↔ ∃ m, m ≤ n ∧ Wk N W s i m k
  | 0, k => by
    show k ∈ [i] ↔ _
    rw [List.mem_singleton]
    constructor
    · rintro rfl; exact ⟨0, Nat.le_refl _, rfl⟩
    · rintro ⟨m, hm, h⟩
      have : m = 0 := by omega
      subst this; exact h
  | n + 1, k => by
    unfold rch
    rw [List.mem_filter, List.mem_range, List.any_eq_true]
    constructor
    · rintro ⟨hk, j, hj, e⟩
      obtain ⟨m, hm, h⟩ := (mem_rch hi).1 hj
      rw [Bool.or_eq_true, decide_eq_true_iff, decide_eq_true_iff] at e
      rcases e with rfl | e
      · exact ⟨m, by omega, h⟩
      · exact ⟨m + 1, by omega, j, h, h.lt hi, hk, e⟩
    · rintro ⟨m, hm, h⟩
      refine ⟨h.lt hi, ?_⟩
      by_cases e : m ≤ n
      · exact ⟨k, (mem_rch hi).2 ⟨m, e, h⟩, by simp⟩
      · have : m = n + 1 := by omega
        subst this
        obtain ⟨j, h1, h2⟩ := h
        exact ⟨j, (mem_rch hi).2 ⟨n, Nat.le_refl _, h1⟩, by simp [h2.2.2]⟩
theorem rc_rch {N : Nat} {W : Nat → Nat → Int} {s : Int} {i k : Nat} (hi : i < N) : Rc N W s i k ↔ k ∈ rch N W s i N := by
  rw [mem_rch hi]
  constructor
  · intro h
    obtain ⟨m, hm⟩ := IsD.of h
    exact ⟨m, Nat.le_of_lt (hm.lt hi), hm.1⟩
  · rintro ⟨m, _, h⟩; exact ⟨m, h⟩
theorem wk_tab {N : Nat} {W W' : Nat → Nat → Int} (hW : ∀ a, a < N → ∀ b, b < N → W a b = W' a b) {s : Int} {i : Nat} : ∀ {m k : Nat}, Wk N W s i m k ↔ Wk N W' s i m k
  | 0, k => Iff.rfl
  | m + 1, k => by
    constructor
    · rintro ⟨j, h1, h2, h3, h4⟩; exact ⟨j, (wk_tab hW).1 h1, h2, h3, by rw [← hW j h2 k h3]; exact h4⟩
    · rintro ⟨j, h1, h2, h3, h4⟩; exact ⟨j, (wk_tab hW).2 h1, h2, h3, by rw [hW j h2 k h3]; exact h4⟩
def h0 : Hunt := ⟨30, 4, 3⟩
def l0 : List Filing := [⟨1, 10, [100, 200, 900]⟩, ⟨2, 20, [100, 300, 900]⟩, ⟨3, 25, [200, 300, 900]⟩, ⟨4, 30, [300, 400, 500, 900]⟩, ⟨5, 50, [500]⟩, ⟨6, 99, [400, 900]⟩]
def T0 (a b : Nat) : Int := (([[2000, 1000, 1000, 0, 0, 0], [1000, 1500, 500, 500, 0, 0], [1000, 500, 1500, 500, 0, 0], [0, 500, 500, 2500, 1000, 0], [0, 0, 0, 1000, 1000, 0], [0, 0, 0, 0, 0, 1000]] : List (List Int)).getD a []).getD b 0
theorem w0 : ∀ a, a < 6 → ∀ b, b < 6 → w h0 l0 a b = T0 a b := by decide +kernel
theorem c0 : check h0 l0 = 0 := by decide +kernel
theorem rc0 {s : Int} {i k : Nat} (hi : i < 6) : RC h0 l0 s i k ↔ k ∈ rch 6 T0 s i 6 := by
  rw [← rc_rch hi]
  constructor
  · rintro ⟨m, h⟩; exact ⟨m, (wk_tab (N := 6) w0).1 h⟩
  · rintro ⟨m, h⟩; exact ⟨m, (wk_tab (N := 6) w0).2 h⟩
theorem fr_eq {p : Nat → Prop} {n : Nat} {f : Nat → Bool} (h : ∀ k < n, (p k ↔ f k = true)) : fr p n = (List.range n).filter f := by
  unfold fr
  refine List.filter_congr fun k hk => ?_
  have := h k (List.mem_range.1 hk)
  by_cases e : p k
  · simp [e, this.1 e]
  · have e2 : f k = false := by
      cases hf : f k with
      | false => rfl
      | true => exact absurd (this.2 hf) e
    simp [e, e2]
def grE (s : Int) (i : Nat) : List Nat := (List.range 6).filter fun k => decide (k ∈ rch 6 T0 s i 6)
theorem gr0 {s : Int} {i : Nat} (hi : i < 6) : gr h0 l0 s i = grE s i := fr_eq fun k _ => by rw [rc0 hi, decide_eq_true_iff]
def headE (s : Int) (i : Nat) : Bool := ((List.range i).all fun k => !decide (k ∈ rch 6 T0 s i 6)) && decide (3 ≤ ((grE s i).length : Int))
def rgsE (s : Int) : List (List Int) := ((List.range 6).filter (headE s)).map fun i => (grE s i).map (idA l0)
theorem rgs0 (s : Int) : rgs h0 l0 s = rgsE s := by
  have h1 : fr (Head h0 l0 s) l0.length = (List.range 6).filter (headE s) := fr_eq fun i hi => by
    have hi : i < 6 := hi
    unfold Head headE
    rw [gr0 hi, Bool.and_eq_true, decide_eq_true_iff, List.all_eq_true]
    refine and_congr ?_ Iff.rfl
    constructor
    · intro h k hk
      have := h k (List.mem_range.1 hk)
      rw [rc0 hi] at this
      simp [this]
    · intro h k hk e
      have := h k (List.mem_range.2 hk)
      rw [rc0 hi] at e
      simp [e] at this
  unfold rgs rgsE
  rw [h1]
  refine List.map_congr_left fun i hi => ?_
  unfold grp
  rw [gr0 (List.mem_range.1 (List.mem_filter.1 hi).1)]
theorem mx0 {s : Int} {i : Nat} (hi : i < 6) {n : Int} (h1 : 0 ≤ n) (h2 : ((List.range 6).all fun a => (List.range 6).all fun b => !decide (a ∈ rch 6 T0 s i 6) || decide (b ∈ rch 6 T0 s i 6) || decide (T0 a b ≤ n)) = true) (h3 : n = 0 ∨ ∃ a b, (a < 6 ∧ b < 6) ∧ a ∈ rch 6 T0 s i 6 ∧ b ∉ rch 6 T0 s i 6 ∧ T0 a b = n) : Mx (w h0 l0) (Out h0 l0 s i) n := by
  refine ⟨h1, fun a b ⟨ha, hb, e1, e2⟩ => ?_, h3.imp (fun e => e) fun ⟨a, b, ⟨ha, hb⟩, e1, e2, e3⟩ => ⟨a, b, ⟨ha, hb, (rc0 hi).2 e1, fun e => e2 ((rc0 hi).1 e)⟩, (w0 a ha b hb).trans e3⟩⟩
  rw [w0 a ha b hb]
  have h4 := List.all_eq_true.1 (List.all_eq_true.1 h2 a (List.mem_range.2 ha)) b (List.mem_range.2 hb)
  have e1 := (rc0 hi).1 e1
  have e2 : b ∉ rch 6 T0 s i 6 := fun e => e2 ((rc0 hi).2 e)
  simpa [e1, e2] using h4
theorem apart1 : Apart' h0 l0 1 501 ([1, 2, 3], 500, 0) := by
  refine .inr (.inr (.inr ⟨c0, rfl, 0, 500, by decide, rfl, mx0 (by decide) (by decide) (by decide +kernel) (.inr ⟨1, 3, by decide, by decide +kernel, by decide +kernel, by decide +kernel⟩), ?_⟩))
  unfold grp
  rw [gr0 (by decide)]
  decide +kernel
def caE (s : Int) : List Nat := (List.range 6).filter fun k => decide (3 ≤ ((grE s k).length : Int))
def alE (s : Int) : List Nat := (List.range 6).filter fun k => decide (3 ≤ ((grE s k).length : Int)) && decide (idA l0 k ∈ [4, 5])
theorem caught0 (s : Int) : caught h0 l0 s = ((caE s).length : Int) := by
  have : fr (cg h0 l0 s) l0.length = caE s := fr_eq fun i hi => by
    unfold cg
    rw [gr0 hi, decide_eq_true_iff]; rfl
  unfold caught
  rw [this]
theorem alarms0 (s : Int) : alarms h0 l0 [4, 5] s = ((alE s).length : Int) := by
  have : fr (cb h0 l0 [4, 5] s) l0.length = alE s := fr_eq fun i hi => by
    unfold cb cg
    rw [gr0 hi, Bool.and_eq_true, decide_eq_true_iff, decide_eq_true_iff]; rfl
  unfold alarms
  rw [this]
theorem tune0 : Tune' h0 l0 [4, 5] 0 (501, 3, 0, 0) := by
  refine .inr (.inr ⟨c0, ⟨by decide, by decide, by decide, by decide⟩, 501, ⟨by decide, by decide, ?_, fun t h1 h2 => ?_⟩, ?_⟩)
  · rw [alarms0]; decide +kernel
  · have h3 := alarms_mono (h := h0) (l := l0) (good := [4, 5]) (s := t) (t := 500) (by omega)
    have h4 : alarms h0 l0 [4, 5] 500 = 2 := by rw [alarms0]; decide +kernel
    omega
  · rw [alarms0, caught0]; decide +kernel
theorem why0 : Why h0 l0 2 5 ([⟨2, 4, 500⟩, ⟨4, 5, 1000⟩], 0) := by
  have e13 : Ed 6 (w h0 l0) 500 1 3 := ⟨by decide, by decide, by decide +kernel⟩
  have e34 : Ed 6 (w h0 l0) 500 3 4 := ⟨by decide, by decide, by decide +kernel⟩
  refine .inr (.inr ⟨c0, 1, 4, by decide +kernel, by decide, by decide, by decide, .inr ⟨500, [1, 3, 4], ⟨by decide, by decide, (rc0 (by decide)).2 (by decide +kernel), fun e => absurd ((rc0 (by decide)).1 e) (by decide +kernel)⟩, ⟨2, ⟨⟨3, ⟨1, rfl, e13⟩, e34⟩, fun m hm h => ?_⟩, .cons (.cons .nil e13) e34, fun q hq => ?_⟩, by decide +kernel⟩⟩)
  · have h1 := (mem_rch (N := 6) (W := T0) (s := 500) (i := 1) (by decide) (n := 1) (k := 4)).2 ⟨m, by omega, (wk_tab (N := 6) w0).1 h⟩
    exact absurd h1 (by decide +kernel)
  · have key : ∀ m q, Pw 6 (w h0 l0) 500 1 m q 4 → m = 2 → val 6 [1, 3, 4] ≤ val 6 q := by
      intro m q hq hm
      cases hq with
      | cons h1 e1 =>
        cases h1 with
        | nil => omega
        | cons h2 e2 =>
          cases h2 with
          | cons _ _ => omega
          | nil =>
            rename_i j
            have hj : 3 ≤ j := by
              have hall : ∀ j, j < 6 → 500 ≤ T0 j 4 → 3 ≤ j := by decide +kernel
              exact hall j e1.1 (by rw [← w0 j e1.1 4 (by decide)]; exact e1.2.2)
            simp [val]
            omega
    exact key 2 q hq rfl
theorem hl0 : l0.length ≤ 30 := by decide
theorem hp0 : ∀ f ∈ l0, f.parts.length ≤ 20 := by decide
end S
open S
theorem r_weighs {a b want : Int} (h : Weight h0 l0 a b = (want, 0)) : Ret (P.law08_weighs a b want) (· = true) := by
  unfold P.law08_weighs P.law08_hunt P.law08_filings
  refine Ret.bind <| Ret.ok <| Ret.bind <| Ret.ok <| Ret.bindM (r_ringWeight h0 (l := l0) hl0 hp0 a b) ?_
  rintro _ rfl
  rw [h]
  exact Ret.bind <| Ret.condT rfl <| Ret.ok <| Ret.ok (decide_eq_true rfl)
theorem r_rings {s : Int} {want : List (List Int)} (hs : inB 1 6001 s = true) (h : rgsE s = want) : Ret (P.law08_rings s want) (· = true) := by
  have hR : Rings h0 l0 s = (want, 0) := by unfold Rings; rw [if_pos c0, if_pos hs, rgs0, h]
  have hlen := Rings_len h0 hl0 s
  rw [hR] at hlen
  unfold P.law08_rings P.law08_hunt P.law08_filings
  refine Ret.bind <| Ret.ok <| Ret.bind <| Ret.ok <| Ret.bindM (r_ringRings h0 (l := l0) hl0 hp0 s) ?_
  rintro _ rfl
  rw [hR]
  refine Ret.bindM (Q' := fun b => b = true) (Ret.condT rfl <| Ret.bindM (r_SameLists (by have := hlen.1; dsimp only at this; omega) fun x hx => by have := hlen.2 x hx; omega) fun b hb => Ret.ok (by rw [hb]; exact decide_eq_true rfl)) fun b hb => Ret.ok hb
theorem r_alive : Ret P.law08_alive (· = true) := by
  unfold P.law08_alive P.law08_hunt P.law08_filings
  refine Ret.bind <| Ret.ok <| Ret.bind <| Ret.ok <| Ret.bindM (r_ringWhy h0 (l := l0) hl0 hp0 2 5) fun x hx => ?_
  obtain rfl := Why.uniq hx why0
  refine Ret.bind <| Ret.ok <| Ret.bind <| Ret.ok <| Ret.bindM (r_ringApart h0 (l := l0) hl0 hp0 1 501) fun y hy => ?_
  obtain rfl := Apart'.uniq hy apart1
  refine Ret.bind <| Ret.ok <| Ret.bind <| Ret.ok <| Ret.bindM (r_ringTune h0 (l := l0) hl0 hp0 (good := [4, 5]) (by decide) 0) fun z hz => ?_
  obtain rfl := Tune'.uniq hz tune0
  refine Ret.bindM (Q' := fun b => b = true) ?_ fun b hb => Ret.ok hb
  refine Ret.bindM (r_weighs (by decide +kernel)) fun _ hb => Ret.condT hb ?_
  refine Ret.bindM (r_weighs (by decide +kernel)) fun _ hb => Ret.condT hb ?_
  refine Ret.bindM (r_weighs (by decide +kernel)) fun _ hb => Ret.condT hb ?_
  refine Ret.bindM (r_rings (by decide) (by decide +kernel)) fun _ hb => Ret.condT hb ?_
  refine Ret.bindM (r_rings (by decide) (by decide +kernel)) fun _ hb => Ret.condT hb ?_
  refine Ret.condT rfl <| Ret.bindM (r_SameTies (by decide)) fun _ hb => Ret.condT (by rw [hb]; decide) ?_
  refine Ret.condT rfl <| Ret.bindM (r_SameInts (by decide)) fun _ hb => Ret.condT (by rw [hb]; decide) ?_
  exact Ret.condT rfl <| Ret.condT rfl <| Ret.condT rfl <| Ret.condT rfl <| Ret.ok rfl
end Go.Proofs.Ytdbogmmdogjhpaa
set_option maxRecDepth 20000
set_option maxHeartbeats 1000000
set_option linter.unusedVariables false
set_option linter.unusedSimpArgs false
namespace Go.Proofs.Ytdbogmmdogjhpaa
open Go Go.Sx
open Go.Rx (ixA)
namespace S
def mbr (xss : List (List Int)) (n : Int) : Int × Bool := if xss.findIdx (fun x => decide (n ∈ x)) < xss.length then ((xss.findIdx (fun x => decide (n ∈ x)) : Nat), true) else (0, false)
theorem mbr_at {xss : List (List Int)} {n : Int} {i : Nat} (hi : i < xss.length) (h : n ∈ xss[i]) (hb : ∀ j (hj : j < i), n ∉ xss[j]'(by omega)) : mbr xss n = ((i : Int), true) := by
  have : xss.findIdx (fun x => decide (n ∈ x)) = i := (List.findIdx_eq hi).2 ⟨decide_eq_true h, fun j hj => by simpa using hb j hj⟩
  unfold mbr
  rw [this, if_pos hi]
theorem mbr_no {xss : List (List Int)} {n : Int} (h : ∀ x ∈ xss, n ∉ x) : mbr xss n = (0, false) := by
  unfold mbr
  rw [if_neg]
  rw [List.findIdx_lt_length]
  rintro ⟨x, hx, e⟩
  exact h x hx (by simpa using e)
theorem mbr_yes {xss : List (List Int)} {n : Int} {x : List Int} (hx : x ∈ xss) (h : n ∈ x) : ∃ i : Nat, mbr xss n = ((i : Int), true) ∧ ∃ hi : i < xss.length, n ∈ xss[i] := by
  have hi : xss.findIdx (fun x => decide (n ∈ x)) < xss.length := List.findIdx_lt_length.2 ⟨x, hx, decide_eq_true h⟩
  refine ⟨_, by unfold mbr; rw [if_pos hi], hi, ?_⟩
  have := List.findIdx_getElem (p := fun x => decide (n ∈ x)) (w := hi)
  simpa using this
theorem mbr_same {xss : List (List Int)} {n m : Int} (h : ∀ x ∈ xss, (n ∈ x ↔ m ∈ x)) : mbr xss n = mbr xss m := by
  have : xss.findIdx (fun x => decide (n ∈ x)) = xss.findIdx (fun x => decide (m ∈ x)) := by
    have key : ∀ xss : List (List Int), (∀ x ∈ xss, (n ∈ x ↔ m ∈ x)) → xss.findIdx (fun x => decide (n ∈ x)) = xss.findIdx (fun x => decide (m ∈ x)) := by
      intro xss
      induction xss with
      | nil => exact fun _ => rfl
      | cons x xs ih =>
        intro h
        rw [List.findIdx_cons, List.findIdx_cons, ih fun y hy => h y (List.mem_cons_of_mem _ hy)]
        have := h x (List.mem_cons_self ..)
        by_cases e : n ∈ x
        · simp [e, this.1 e]
        · simp [e, mt this.2 e]
    exact key xss h
  unfold mbr
  rw [this]
end S
open S
theorem r_member {xss : List (List Int)} {n : Int} (h1 : xss.length ≤ 1000) (h2 : ∀ x ∈ xss, x.length ≤ 1000) : Ret (P.law08_member xss n) (· = mbr xss n) := by
  unfold P.law08_member
  refine Ret.bindM (Q' := fun r => (r = Sum.inl () ∧ ∀ x ∈ xss, n ∉ x) ∨ r = Sum.inr (mbr xss n) ) (Ret.upto xss.length (fun t (i : Int) => i = t ∧ ∀ j (hj : j < xss.length), j < t → n ∉ xss[j]) ⟨rfl, fun j hj h0 => by omega⟩ ?_ ?_) ?_
  · rintro t ht i ⟨rfl, hI⟩
    have hl := h2 _ (List.getElem_mem ht)
    refine Ret.condT (lt_cast ht) <| Ret.bind <| ixR ht ?_
    refine Ret.bindM (Q' := fun r => (r = Sum.inl () ∧ n ∉ xss[t]) ∨ (r = Sum.inr ((t : Int), true) ∧ n ∈ xss[t])) (Ret.upto xss[t].length (fun m (i : Int) => i = m ∧ n ∉ xss[t].take m) ⟨rfl, by simp⟩ ?_ ?_) ?_
    · rintro m hm i ⟨rfl, hI2⟩
      refine Ret.condT (lt_cast hm) <| Ret.bind <| ixR hm <| Ret.cond (fun hc => Ret.done (.inr ⟨rfl, ?_⟩)) (fun hc => Ret.bind <| Ret.chk (by omega) <| Ret.next ⟨rfl, nt hm hI2 (of_decide_eq_false hc)⟩)
      exact (of_decide_eq_true hc) ▸ List.getElem_mem hm
    · rintro i ⟨rfl, hI2⟩
      rw [List.take_length] at hI2
      exact Ret.condF not_lt_cast <| Ret.done (.inl ⟨rfl, hI2⟩)
    · rintro r (⟨rfl, hr⟩ | ⟨rfl, hr⟩)
      · refine Ret.elimL <| Ret.bind <| Ret.chk (by omega) <| Ret.next ⟨rfl, fun j hj hjt => ?_⟩
        by_cases e : j = t
        · subst e; exact hr
        · exact hI j hj (by omega)
      · exact Ret.elimR <| Ret.done (.inr (by rw [mbr_at ht hr fun j hj => hI j (by omega) hj]))
  · rintro i ⟨rfl, hI⟩
    refine Ret.condF not_lt_cast <| Ret.done (.inl ⟨rfl, fun x hx => ?_⟩)
    obtain ⟨j, hj, rfl⟩ := List.mem_iff_getElem.1 hx
    exact hI j hj hj
  · rintro r (⟨rfl, hr⟩ | rfl)
    · exact Ret.elimL <| Ret.ok (mbr_no hr).symm
    · exact Ret.elimR <| Ret.ok rfl
/-- One list. -/
theorem r_member1 {x : List Int} {n : Int} (h : x.length ≤ 1000) : Ret (P.law08_member [x] n) (fun r => r.2 = decide (n ∈ x)) := by
  refine (r_member (by simp) (by simpa using h)).mono fun r hr => ?_
  rw [hr]
  by_cases e : n ∈ x
  · rw [mbr_at (i := 0) (by simp) e fun j hj => by omega, decide_eq_true e]
  · rw [mbr_no (by simpa using e), decide_eq_false e]
theorem r_ready (h : Hunt) (l : List Filing) (s : Int) : Ret (P.law08_ready h l s) fun b => b = true → Vd h l ∧ 1 ≤ s ∧ s ≤ 6001 := by
  unfold P.law08_ready
  refine Ret.bindM (Q' := fun b => b = true → Vd h l ∧ 1 ≤ s ∧ s ≤ 6001) (Ret.bindM (r_Great l) fun g hg => Ret.cond (fun h1 => ?_) (fun _ => Ret.ok (fun e => by cases e))) fun b hb => Ret.ok hb
  have h1 : great l = false := by rw [← hg]; simpa using h1
  obtain ⟨hl, hp⟩ := great_out h1
  refine Ret.bindM (r_refCheck hl hp) fun c hc => Ret.cond (fun h2 => Ret.cond (fun h3 => Ret.ok (fun e => ?_)) (fun _ => Ret.ok (fun e => by cases e))) (fun _ => Ret.ok (fun e => by cases e))
  exact ⟨check_iff.1 (hc ▸ of_decide_eq_true h2), of_decide_eq_true h3, of_decide_eq_true e⟩
section
variable {h : Hunt} {l : List Filing} (v : Vd h l)
include v
theorem idA_mem {k : Nat} (hk' : k < l.length) : idA l k ∈ ids l := by
  unfold idA
  rw [id_at hk']
  exact List.mem_map_of_mem (List.getElem_mem hk')
theorem id_idA {k : Nat} (hk' : k < l.length) : l[k].id = idA l k := (id_at hk').symm
theorem grp_eq {s : Int} {i k : Nat} (e : RC h l s i k) : grp h l s i = grp h l s k := by unfold grp; rw [gr_same v e]
theorem mem_rgs {s : Int} {x : List Int} : x ∈ rgs h l s ↔ ∃ i, i < l.length ∧ Head h l s i ∧ x = grp h l s i := by
  unfold rgs
  rw [List.mem_map]
  exact ⟨fun ⟨i, h1, h2⟩ => ⟨i, (mem_fr.1 h1).1, (mem_fr.1 h1).2, h2.symm⟩, fun ⟨i, h1, h2, h3⟩ => ⟨i, mem_fr.2 ⟨h1, h2⟩, h3.symm⟩⟩
theorem in_ring {s : Int} {k : Nat} (hk' : k < l.length) {x : List Int} (hx : x ∈ rgs h l s) (he : idA l k ∈ x) : x = grp h l s k ∧ cg h l s k := by
  obtain ⟨i, h1, h2, rfl⟩ := (mem_rgs v).1 hx
  have h3 := (mem_grp v hk').1 he
  refine ⟨grp_eq v h3, ?_⟩
  unfold cg
  rw [← gr_same v h3]
  exact h2.2
theorem ring_of {s : Int} {k : Nat} (hk' : k < l.length) (hc : cg h l s k) : grp h l s k ∈ rgs h l s := by
  obtain ⟨i, hi, hmin⟩ := least_ex (p := fun i => RC h l s i k) ⟨k, .refl⟩
  have hil : i < l.length := (hi.sym v.wcomm).lt hk'
  refine (mem_rgs v).2 ⟨i, hil, ⟨fun j hj e => hmin j hj ((e.sym v.wcomm).trans hi), ?_⟩, (grp_eq v hi).symm⟩
  rw [gr_same v hi]
  exact hc
theorem mb_in {s : Int} {k : Nat} (hk' : k < l.length) (hc : cg h l s k) : ∃ i : Nat, mbr (rgs h l s) (idA l k) = ((i : Int), true) ∧ ∃ hi : i < (rgs h l s).length, (rgs h l s)[i] = grp h l s k := by
  obtain ⟨i, h1, hi, h2⟩ := mbr_yes (ring_of v hk' hc) ((mem_grp v hk').2 .refl)
  exact ⟨i, h1, hi, (in_ring v hk' (List.getElem_mem hi) h2).1⟩
theorem mb_out {s : Int} {k : Nat} (hk' : k < l.length) (hc : ¬ cg h l s k) : mbr (rgs h l s) (idA l k) = (0, false) := mbr_no fun x hx e => hc (in_ring v hk' hx e).2
theorem mb_same {s : Int} {i k : Nat} (hi : i < l.length) (hk' : k < l.length) (e : RC h l s i k) : mbr (rgs h l s) (idA l i) = mbr (rgs h l s) (idA l k) := mbr_same fun x hx => by
  obtain ⟨j, h1, h2, rfl⟩ := (mem_rgs v).1 hx
  rw [mem_grp v hi, mem_grp v hk']
  exact ⟨fun x => x.trans e, fun x => x.trans (e.sym v.wcomm)⟩
theorem head_grp {s : Int} {i : Nat} (hi : i < l.length) (hh : Head h l s i) : (grp h l s i)[0]? = some (idA l i) := by
  obtain ⟨a, r, h1, h2, h3⟩ := gr_head v (s := s) hi
  unfold grp
  rw [h1, List.map_cons, ← h3.2 hh.1]
  rfl
theorem rgs_at {s : Int} {t : Nat} (ht : t < (rgs h l s).length) : ∃ i, i < l.length ∧ Head h l s i ∧ (rgs h l s)[t] = grp h l s i ∧ (fr (Head h l s) l.length)[t]? = some i := by
  have e : (rgs h l s)[t]? = ((fr (Head h l s) l.length)[t]?).map (grp h l s) := by unfold rgs; rw [List.getElem?_map]
  rw [List.getElem?_eq_getElem ht] at e
  cases hf : (fr (Head h l s) l.length)[t]? with
  | none => rw [hf] at e; cases e
  | some i =>
    rw [hf] at e
    have hm := mem_fr.1 (List.mem_of_getElem? hf)
    exact ⟨i, hm.1, hm.2, Option.some.inj e, rfl⟩
theorem grp_mem {s : Int} {i : Nat} {z : Int} (hz : z ∈ grp h l s i) : ∃ k, k < l.length ∧ RC h l s i k ∧ z = idA l k := by
  unfold grp at hz
  obtain ⟨k, h1, h2⟩ := List.mem_map.1 hz
  exact ⟨k, (mem_gr.1 h1).1, (mem_gr.1 h1).2, h2.symm⟩
end
end Go.Proofs.Ytdbogmmdogjhpaa
set_option maxRecDepth 20000
set_option maxHeartbeats 1000000
set_option linter.unusedVariables false
set_option linter.unusedSimpArgs false
namespace Go.Proofs.Ytdbogmmdogjhpaa
open Go Go.Sx
open Go.Rx (ixA)
open S
section
variable {h : Hunt} {l : List Filing} (v : Vd h l)
include v
theorem vd_pl : ∀ f ∈ l, f.parts.length ≤ 20 := fun f hf => by have := v.prl f hf; omega
theorem vd_len : l.length ≤ 30 := by have := v.len; omega
theorem Rings_ok {s : Int} (h1 : 1 ≤ s) (h2 : s ≤ 6001) : Rings h l s = (rgs h l s, 0) := by
  unfold Rings
  rw [if_pos (check_iff.2 v), if_pos (inB_iff.2 ⟨h1, h2⟩)]
theorem r_rgs {s : Int} (h1 : 1 ≤ s) (h2 : s ≤ 6001) : Ret (P.ring_Rings h l s) (· = (rgs h l s, 0)) := (r_ringRings h (vd_len v) (vd_pl v) s).mono fun r hr => by rw [hr, Rings_ok v h1 h2]
theorem r_mbr {s : Int} {n : Int} : Ret (P.law08_member (rgs h l s) n) (· = mbr (rgs h l s) n) := by
  have hlen := v.len
  have h1 := heads_len (h := h) (l := l) s
  refine r_member (by omega) fun x hx => ?_
  obtain ⟨i, _, _, rfl⟩ := (mem_rgs v).1 hx
  have := grp_len v (s := s) (i := i)
  omega
/-- A ring, member by member. -/
theorem ring_get {s : Int} {t : Nat} (ht : t < (rgs h l s).length) : ∃ i, i < l.length ∧ Head h l s i ∧ (rgs h l s)[t] = grp h l s i ∧ (rgs h l s)[t][0]? = some (idA l i) ∧ (rgs h l s)[t].length ≤ 24 ∧ ∀ k (hk' : k < (rgs h l s)[t].length), ∃ a, a < l.length ∧ RC h l s i a ∧ (rgs h l s)[t][k] = idA l a := by
  have hlen := v.len
  obtain ⟨i, hi, hh, hx, _⟩ := rgs_at v ht
  refine ⟨i, hi, hh, hx, by rw [hx]; exact head_grp v hi hh, ?_, fun k hk' => ?_⟩
  · rw [hx]
    have := grp_len v (s := s) (i := i)
    omega
  · have hm : (rgs h l s)[t][k] ∈ grp h l s i := hx ▸ List.getElem_mem hk'
    exact grp_mem v hm
end
end Go.Proofs.Ytdbogmmdogjhpaa
set_option maxRecDepth 20000
set_option maxHeartbeats 1000000
set_option linter.unusedVariables false
set_option linter.unusedSimpArgs false
namespace Go.Proofs.Ytdbogmmdogjhpaa
open Go Go.Sx
open Go.Rx (ixA)
open S
section
variable {h : Hunt} {l : List Filing} (v : Vd h l)
include v
theorem idx_idA {a : Nat} (ha : a < l.length) : idx (ids l) (idA l a) = a := by
  obtain ⟨k, h1, h2, h3⟩ := idx_at (idA_mem v ha)
  have hk' : k < l.length := by simpa [ids] using h2
  have : k = a := idA_inj v hk' ha h3
  rw [h1, this]
theorem weight_ok {a b : Nat} (ha : a < l.length) (hb : b < l.length) (hne : a ≠ b) : Weight h l (idA l a) (idA l b) = (w h l a b, 0) := by
  unfold Weight
  rw [if_pos (check_iff.2 v), idx_idA v ha, idx_idA v hb, if_neg (by omega), if_neg (by omega)]
  rfl
theorem weight_eq {a : Nat} (ha : a < l.length) : Weight h l (idA l a) (idA l a) = (0, 2) := by
  unfold Weight
  rw [if_pos (check_iff.2 v), idx_idA v ha, if_neg (by omega), if_pos rfl]
theorem apart_ok {i : Nat} (hi : i < l.length) {s : Int} (h1 : 1 ≤ s) (h2 : s ≤ 6001) : Ret (P.ring_Apart h l (idA l i) s) fun r => ∃ n, Mx (w h l) (Out h l s i) n ∧ r = (grp h l s i, n, 0) := by
  refine (r_ringApart h (vd_len v) (vd_pl v) _ _).mono fun r hr => ?_
  rcases hr with ⟨a1, rfl⟩ | ⟨a1, a2, rfl⟩ | ⟨a1, a2, a3, rfl⟩ | ⟨a1, a2, j, n, a3, a4, a5, rfl⟩
  · exact absurd (check_iff.2 v) a1
  · exact absurd (idA_mem v hi) a2
  · rw [inB_iff.2 ⟨h1, h2⟩] at a3; cases a3
  · have := idA_inj v a3 hi a4
    subst this
    exact ⟨n, a5, rfl⟩
theorem r_in_grp {s : Int} {i b : Nat} (hb : b < l.length) {Q : Int × Bool → Prop} (q : ∀ r, (r.2 = true ↔ RC h l s i b) → Q r) : Ret (P.law08_member [grp h l s i] (idA l b)) Q := by
  have hlen := v.len
  have := grp_len v (s := s) (i := i)
  refine (r_member1 (by omega)).mono fun r hr => q r ?_
  rw [hr, decide_eq_true_iff]
  exact mem_grp v hb
end
end Go.Proofs.Ytdbogmmdogjhpaa
set_option maxRecDepth 20000
set_option maxHeartbeats 1000000
set_option linter.unusedVariables false
set_option linter.unusedSimpArgs false
namespace Go.Proofs.Ytdbogmmdogjhpaa
open Go Go.Sx
open Go.Rx (ixA)
open S
theorem wG (h : Hunt) (l : List Filing) (z : Int) : w ⟨h.window, h.common, z⟩ l = w h l := rfl
theorem wW {h : Hunt} {l : List Filing} {z : Int} (hz : h.window ≤ z) (a b : Nat) : w h l a b ≤ w ⟨z, h.common, h.size⟩ l a b := by
  unfold w
  split
  · rename_i x y _ _
    show wt h l x y ≤ wt ⟨z, h.common, h.size⟩ l x y
    have h1 := wsum_in h l x.parts y.parts
    have h2 : wsum ⟨z, h.common, h.size⟩ l x.parts y.parts = wsum h l x.parts y.parts := rfl
    unfold wt
    rw [h2]
    dsimp only
    split
    · split <;> omega
    · rw [if_neg (by omega)]; omega
  · omega
theorem Rc.up {N : Nat} {W W' : Nat → Nat → Int} (hW : ∀ a b, W a b ≤ W' a b) {s : Int} {i k : Nat} (h : Rc N W s i k) : Rc N W' s i k :=
  Rc.ind (p := fun k => Rc N W' s i k) .refl (fun a b ha he => ha.trans (Rc.ed ⟨he.1, he.2.1, Int.le_trans he.2.2 (hW a b)⟩)) h
theorem r_pick {l : List Filing} (h0 : 0 < l.length) {x : Int} (hx : 0 ≤ x) {Q : Filing → Prop} (q : ∀ i (hi : i < l.length), Q l[i]) : Ret (Option.bind (remO x (l.length : Int)) fun n => ixo l n) Q := by
  refine Ret.bind <| Ret.remO (by omega) (by omega) ?_
  obtain ⟨i, hi, ei⟩ : ∃ i : Nat, i < l.length ∧ x % (l.length : Int) = i := ⟨(x % (l.length : Int)).toNat, by have := Int.emod_lt_of_pos x (show (0 : Int) < l.length by omega); have := Int.emod_nonneg x (show (l.length : Int) ≠ 0 by omega); omega, by have := Int.emod_nonneg x (show (l.length : Int) ≠ 0 by omega); omega⟩
  rw [ei]
  exact ixR hi (q i hi)
theorem r_pick2 {l : List Filing} (h0 : 0 < l.length) {x : Int} (hx : 0 ≤ x ∧ x ≤ 1000000) {R : Type} {K : Filing → Option R} {Q : R → Prop} (q : ∀ i (hi : i < l.length), Ret (K l[i]) Q) : Ret (Option.bind (chk .i64 x) fun n => Option.bind (remO n (l.length : Int)) fun n => Option.bind (ixo l n) K) Q := by
  refine Ret.bind <| Ret.chk (by omega) <| Ret.bind <| Ret.remO (by omega) (by omega) ?_
  obtain ⟨i, hi, ei⟩ : ∃ i : Nat, i < l.length ∧ x % (l.length : Int) = i := ⟨(x % (l.length : Int)).toNat, by have := Int.emod_lt_of_pos x (show (0 : Int) < l.length by omega); have := Int.emod_nonneg x (show (l.length : Int) ≠ 0 by omega); omega, by have := Int.emod_nonneg x (show (l.length : Int) ≠ 0 by omega); omega⟩
  rw [ei]
  exact Ret.bind <| ixR hi (q i hi)
theorem p_RingWider (h : Hunt) (l : List Filing) (strength one two more size : Int) (b3 : InK .u8 one) (b4 : InK .u8 two) (b5 : InK .u16 more) (b6 : InK .u8 size) : P.law08_RingWider h l strength one two more size = some true := by
  have b3 := InK.u8.1 b3
  have b4 := InK.u8.1 b4
  have b5 := InK.u16.1 b5
  have b6 := InK.u8.1 b6
  apply Ret.yes
  unfold P.law08_RingWider
  refine Ret.bindM r_alive ?_
  rintro _ rfl
  refine Ret.bindM (Q' := fun b => b = false → (Vd h l ∧ 1 ≤ strength ∧ strength ≤ 6001) ∧ 0 < l.length) (Ret.bindM (r_ready h l strength) fun b hb => Ret.cond (fun _ => Ret.ok (fun e => by cases e)) (fun h1 => Ret.cond (fun _ => Ret.ok (fun e => by cases e)) (fun h2 => Ret.ok fun _ => ⟨hb (by simpa using h1), by have := of_decide_eq_false h2; omega⟩))) fun b hb => ?_
  refine Ret.cond (fun _ => Ret.ok rfl) (fun hg => ?_)
  obtain ⟨⟨v, hs1, hs2⟩, h0⟩ := hb hg
  have hlen := v.len
  have hwin := v.win
  have hsiz := v.siz
  refine r_pick2 h0 (by omega) fun a ha => r_pick2 h0 (by omega) fun c hc => ?_
  rw [id_idA v ha, id_idA v hc]
  refine Ret.bind <| Ret.chk (by omega) <| Ret.bind <| Ret.chk (by omega) <| Ret.bind <| Ret.remO (by omega) (by omega) ?_
  have hd1 := Int.emod_nonneg size (show (5 : Int) ≠ 0 by omega)
  have hd2 := Int.emod_lt_of_pos size (show (0 : Int) < 5 by omega)
  generalize size % 5 = d at hd1 hd2
  refine Ret.bind <| Ret.chk (by omega) <| Ret.bind <| Ret.chk (by omega) ?_
  generalize hW : min (h.window + more) 100000 = W
  generalize hZ : min (h.size + d) 24 = Z
  have vW : Vd ⟨W, h.common, h.size⟩ l := ⟨by dsimp only; omega, v.com, v.siz, v.len, v.ids, v.idr, v.day, v.prl, v.prt, v.prr⟩
  have vZ : Vd ⟨h.window, h.common, Z⟩ l := ⟨v.win, v.com, by dsimp only; omega, v.len, v.ids, v.idr, v.day, v.prl, v.prt, v.prr⟩
  have hup : ∀ a b, w h l a b ≤ w ⟨W, h.common, h.size⟩ l a b := wW (by omega)
  refine Ret.bindM (r_ringWeight h (vd_len v) (vd_pl v) _ _) ?_
  rintro ⟨m1, f1⟩ e1
  refine Ret.bindM (r_ringWeight ⟨W, h.common, h.size⟩ (vd_len v) (vd_pl v) _ _) ?_
  rintro ⟨m2, f2⟩ e2
  refine Ret.bindM (r_ringWeight h (vd_len v) (vd_pl v) _ _) ?_
  rintro ⟨m3, f3⟩ e3
  have hwt : f1 = f2 ∧ f1 = f3 ∧ m1 ≤ m2 ∧ m3 = m1 ∧ 0 ≤ m1 ∧ m1 ≤ 6000 := by
    by_cases e : a = c
    · subst e
      rw [weight_eq v ha] at e1 e3
      rw [weight_eq vW ha] at e2
      cases e1; cases e2; cases e3
      exact ⟨rfl, rfl, Int.le_refl _, rfl, Int.le_refl _, by decide⟩
    · have := v.win_ a c
      rw [weight_ok v ha hc e] at e1
      rw [weight_ok vW ha hc e] at e2
      rw [weight_ok v hc ha (fun x => e x.symm)] at e3
      cases e1; cases e2; cases e3
      exact ⟨rfl, rfl, hup a c, v.wcomm c a, this.1, this.2⟩
  clear e1 e2 e3
  obtain ⟨k1, k2, k3, k4, k5, k6⟩ := hwt
  dsimp only
  refine Ret.bindM (Q' := fun b => b = false) (Ret.condF (by rw [k1]; simp) <| Ret.condF (by rw [k2]; simp) <| Ret.condF (decide_eq_false (by omega)) <| Ret.condF (by rw [k4]; simp) <| Ret.condF (decide_eq_false (by omega)) <| Ret.ok (decide_eq_false (by omega))) fun b hb => Ret.condF hb ?_
  refine Ret.bindM (r_rgs v hs1 hs2) ?_
  rintro _ rfl
  refine Ret.bindM (r_rgs vW hs1 hs2) ?_
  rintro _ rfl
  refine Ret.bindM (r_rgs vZ hs1 hs2) ?_
  rintro _ rfl
  have hrcZ : ∀ s i k, RC ⟨h.window, h.common, Z⟩ l s i k ↔ RC h l s i k := fun s i k => by unfold RC; rw [wG]
  have hgrZ : ∀ s i, gr ⟨h.window, h.common, Z⟩ l s i = gr h l s i := fun s i => fr_congr fun k _ => hrcZ s i k
  have hgpZ : ∀ s i, grp ⟨h.window, h.common, Z⟩ l s i = grp h l s i := fun s i => by unfold grp; rw [hgrZ]
  have hhd : ∀ s i, Head ⟨h.window, h.common, Z⟩ l s i → Head h l s i := fun s i ⟨e1, e2⟩ => ⟨fun k hk' e => e1 k hk' ((hrcZ s i k).2 e), by rw [hgrZ] at e2; dsimp only at e2; omega⟩
  have hll : (rgs ⟨h.window, h.common, Z⟩ l strength).length ≤ (rgs h l strength).length := by
    unfold rgs
    rw [List.length_map, List.length_map]
    exact fr_sub fun k _ e => hhd _ _ e
  have hrl := heads_len (h := h) (l := l) strength
  refine Ret.bindM (Q' := fun b => b = false) (Ret.condF rfl <| Ret.condF rfl <| Ret.condF rfl <| Ret.ok (decide_eq_false (by dsimp only; omega))) fun b hb => Ret.condF hb ?_
  dsimp only
  refine Ret.bindM (Q' := fun r => r = Sum.inl ()) (Ret.upto (rgs h l strength).length (fun n (x : Int) => x = n) rfl ?_ ?_) ?_
  · rintro n hn _ rfl
    obtain ⟨i, hi, hh, hx, hx0, hl, hall⟩ := ring_get v hn
    refine Ret.condT (lt_cast hn) <| Ret.bind <| ixR hn ?_
    have hci : cg ⟨W, h.common, h.size⟩ l strength i := by
      have : (gr h l strength i).length ≤ (gr ⟨W, h.common, h.size⟩ l strength i).length := fr_sub fun k _ e => Rc.up hup e
      have := hh.2
      show h.size ≤ _
      omega
    obtain ⟨j, e1, hj, e2⟩ := mb_in vW hi hci
    refine Ret.bindM (Q' := fun r => r = Sum.inl ()) (Ret.upto (rgs h l strength)[n].length (fun k (x : Int) => x = k) rfl ?_ ?_) ?_
    · rintro k hk' _ rfl
      obtain ⟨a, ha1, ha2, ha3⟩ := hall k hk'
      refine Ret.condT (lt_cast hk') <| Ret.bind <| ixR hk' <| Ret.bindM (r_mbr vW) fun r1 hr1 => Ret.bind <| Ret.ixo (i := 0) hx0 <| Ret.bindM (r_mbr vW) fun r2 hr2 => ?_
      rw [ha3, ← mb_same vW hi ha1 (Rc.up hup ha2), e1] at hr1
      rw [e1] at hr2
      subst hr1 hr2
      exact Ret.bindM (Q' := fun b => b = false) (Ret.condF rfl <| Ret.condF rfl <| Ret.ok (by simp)) fun b hb => Ret.condF hb <| Ret.bind <| Ret.chk (by omega) <| Ret.next rfl
    · rintro _ rfl
      exact Ret.condF not_lt_cast <| Ret.done rfl
    · rintro _ rfl
      exact Ret.elimL <| Ret.bind <| Ret.chk (by omega) <| Ret.next rfl
  · rintro _ rfl
    exact Ret.condF not_lt_cast <| Ret.done rfl
  rintro _ rfl
  refine Ret.elimL ?_
  refine Ret.bindM (Q' := fun r => r = Sum.inl ()) (Ret.upto (rgs ⟨h.window, h.common, Z⟩ l strength).length (fun n (x : Int) => x = n) rfl ?_ ?_) ?_
  · rintro n hn _ rfl
    obtain ⟨i, hi, hh, hx, hx0, hl, hall⟩ := ring_get vZ hn
    have hc1 : cg h l strength i := (hhd _ _ hh).2
    obtain ⟨j, e1, hj, e2⟩ := mb_in v hi hc1
    refine Ret.condT (lt_cast hn) <| Ret.bind <| ixR hn <| Ret.condF (decide_eq_false ?_) <| Ret.bind <| Ret.ixo (i := 0) hx0 <| Ret.bindM (r_mbr v) fun r1 hr1 => ?_
    · rw [hx]
      have := hh.2
      unfold grp
      rw [List.length_map]
      dsimp only at this
      omega
    · rw [e1] at hr1
      subst hr1
      have hgl := grp_len v (s := strength) (i := i)
      refine Ret.bindM (Q' := fun b => b = false) (Ret.condF rfl <| Ret.bind <| ixR hj <| Ret.bindM (r_SameInts (by rw [e2]; omega)) fun b hb => Ret.ok ?_) fun b hb => Ret.condF hb <| Ret.bind <| Ret.chk (by omega) <| Ret.next rfl
      rw [hb, e2, hx, hgpZ]
      simp
  · rintro _ rfl
    exact Ret.condF not_lt_cast <| Ret.done rfl
  · rintro _ rfl
    exact Ret.elimL <| Ret.ok rfl
end Go.Proofs.Ytdbogmmdogjhpaa
set_option maxRecDepth 20000
set_option maxHeartbeats 1000000
set_option linter.unusedVariables false
set_option linter.unusedSimpArgs false
namespace Go.Proofs.Ytdbogmmdogjhpaa
open Go Go.Sx
open Go.Rx (ixA)
namespace S
theorem Pw.edge {N : Nat} {W : Nat → Nat → Int} {s : Int} {i k m : Nat} {p : List Nat} (h : Pw N W s i m p k) : ∀ t, t + 1 ≤ m → ∃ a b, p[t]? = some a ∧ p[t + 1]? = some b ∧ Ed N W s a b := by
  induction h with
  | nil => intro t ht; omega
  | @cons m p j k h1 he ih =>
    intro t ht
    have hl := h1.len
    by_cases e : t + 1 ≤ m
    · obtain ⟨a, b, h2, h3, h4⟩ := ih t e
      exact ⟨a, b, by rw [List.getElem?_append_left (by omega)]; exact h2, by rw [List.getElem?_append_left (by omega)]; exact h3, h4⟩
    · have : t = m := by omega
      subst this
      exact ⟨j, k, by rw [List.getElem?_append_left (by omega)]; exact h1.last, by rw [List.getElem?_append_right (by omega), hl]; simp, he⟩
theorem Pw.apart {N : Nat} {W : Nat → Nat → Int} {s : Int} {i k m : Nat} {p : List Nat} (h : Pw N W s i m p k) (hd : IsD N W s i k m) {t u a : Nat} (htu : t < u) (hu : u ≤ m) (ha : p[t]? = some a) : p[u]? ≠ some a := fun hb => by
  obtain ⟨j, h1, h2, _⟩ := h.get t (by omega)
  obtain ⟨j', h3, _, h4⟩ := h.get u hu
  rw [ha] at h1; cases h1
  rw [hb] at h3; cases h3
  exact hd.2 (t + (m - u)) (by omega) (h2.wk.add h4)
theorem ties_get {h : Hunt} {l : List Filing} : ∀ {p : List Nat} {t a b : Nat}, p[t]? = some a → p[t + 1]? = some b → (ties h l p)[t]? = some (tie h l a b)
  | [], _, _, _, h1, _ => by cases h1
  | [x], 0, _, _, _, h2 => by cases h2
  | [x], t + 1, _, _, h1, _ => by cases h1
  | x :: y :: r, 0, _, _, h1, h2 => by cases h1; cases h2; rfl
  | x :: y :: r, t + 1, _, _, h1, h2 => ties_get (p := y :: r) (t := t) h1 h2
end S
open S
section
variable {h : Hunt} {l : List Filing} (v : Vd h l)
include v
theorem two_idA {i k : Nat} (hi : i < l.length) (hk' : k < l.length) (hne : i ≠ k) : two l (idA l i) (idA l k) = ((i : Int), (k : Int), 0) := by
  unfold two
  rw [idx_idA v hi, idx_idA v hk', if_neg (by omega), if_neg (by omega)]
theorem two_same {i : Nat} (hi : i < l.length) : two l (idA l i) (idA l i) = (0, 0, 2) := by
  unfold two
  rw [idx_idA v hi, if_neg (by omega), if_pos rfl]
theorem why_ok {i k : Nat} (hi : i < l.length) (hk' : k < l.length) (hne : i ≠ k) : Ret (P.ring_Why h l (idA l i) (idA l k)) fun r => (¬ RC h l 1 i k ∧ r = ([], 6)) ∨ ∃ s p, Wide h l s i k ∧ Best l.length (w h l) s i k p ∧ r = (ties h l p, 0) := by
  refine (r_ringWhy h (vd_len v) (vd_pl v) _ _).mono fun r hr => ?_
  rcases hr with ⟨c, _⟩ | ⟨_, c2, _⟩ | ⟨_, i', k', c2, _, _, _, hr⟩
  · exact absurd (check_iff.2 v) c
  · rw [two_idA v hi hk' hne] at c2; exact absurd rfl c2
  · rw [two_idA v hi hk' hne] at c2
    simp only [Prod.mk.injEq] at c2
    obtain ⟨e1, e2, _⟩ := c2
    obtain rfl : i = i' := by omega
    obtain rfl : k = k' := by omega
    exact hr
omit v in
theorem wide_iff {s t : Int} {i k : Nat} (hw : Wide h l s i k) : RC h l t i k ↔ t ≤ s := by
  refine ⟨fun e => ?_, fun e => hw.2.2.1.mono e⟩
  rcases Int.lt_or_le s t with e2 | e2
  · exact absurd (e.mono (show s + 1 ≤ t by omega)) hw.2.2.2
  · exact e2
theorem mb_dec {s : Int} {k : Nat} (hk' : k < l.length) : ∃ i : Nat, ∃ b, mbr (rgs h l s) (idA l k) = ((i : Int), b) ∧ (b = true ↔ cg h l s k) ∧ (b = true → ∃ hi : i < (rgs h l s).length, (rgs h l s)[i] = grp h l s k) := by
  by_cases e : cg h l s k
  · obtain ⟨i, h1, h2⟩ := mb_in v hk' e
    exact ⟨i, true, h1, ⟨fun _ => e, fun _ => rfl⟩, fun _ => h2⟩
  · exact ⟨0, false, mb_out v hk' e, ⟨(fun x => by cases x), fun x => absurd x e⟩, (fun x => by cases x)⟩
end
theorem p_RingProved (h : Hunt) (l : List Filing) (strength one two : Int) (b3 : InK .u8 one) (b4 : InK .u8 two) : P.law08_RingProved h l strength one two = some true := by
  have b3 := InK.u8.1 b3
  have b4 := InK.u8.1 b4
  apply Ret.yes
  unfold P.law08_RingProved
  refine Ret.bindM r_alive ?_
  rintro _ rfl
  refine Ret.bindM (Q' := fun b => b = false → (Vd h l ∧ 1 ≤ strength ∧ strength ≤ 6001) ∧ 0 < l.length) (Ret.bindM (r_ready h l strength) fun b hb => Ret.cond (fun _ => Ret.ok (fun e => by cases e)) (fun h1 => Ret.cond (fun _ => Ret.ok (fun e => by cases e)) (fun h2 => Ret.ok fun _ => ⟨hb (by simpa using h1), by have := of_decide_eq_false h2; omega⟩))) fun b hb => ?_
  refine Ret.cond (fun _ => Ret.ok rfl) (fun hg => ?_)
  obtain ⟨⟨v, hs1, hs2⟩, h0⟩ := hb hg
  have hlen := v.len
  refine r_pick2 h0 (by omega) fun i hi => r_pick2 h0 (by omega) fun j hj => ?_
  rw [id_idA v hi, id_idA v hj]
  refine Ret.cond (fun _ => Ret.ok rfl) (fun hne => ?_)
  have hne : i ≠ j := fun e => of_decide_eq_false hne (by rw [e])
  refine Ret.bindM (r_rgs v hs1 hs2) ?_
  rintro _ rfl
  refine Ret.bindM (apart_ok v hi hs1 hs2) ?_
  rintro _ ⟨n, hn, rfl⟩
  refine Ret.bindM (why_ok v hi hj hne) ?_
  rintro ⟨ts, k⟩ hwhy
  dsimp only
  have hgl := grp_len v (s := strength) (i := i)
  refine Ret.bindM (Q' := fun b => b = false) (Ret.condF rfl <| Ret.ok rfl) fun b hb => Ret.condF hb ?_
  obtain ⟨i1, p1, e1, e2, e3⟩ := mb_dec v (s := strength) hi
  obtain ⟨i2, p2, f1, f2, f3⟩ := mb_dec v (s := strength) hj
  refine Ret.bindM (r_mbr v) fun r1 hr1 => Ret.bindM (r_mbr v) fun r2 hr2 => ?_
  have hsame : RC h l strength i j → i1 = i2 ∧ p1 = p2 := fun e => by
    have := mb_same v hi hj e
    rw [e1, f1] at this
    simp only [Prod.mk.injEq] at this
    exact ⟨by omega, this.2⟩
  rw [e1] at hr1
  rw [f1] at hr2
  subst hr1 hr2
  refine Ret.bindM (Q' := fun b => b = true ↔ p1 = true ∧ RC h l strength i j) ?_ fun tog htog => ?_
  · refine Ret.cond (fun c1 => Ret.cond (fun c2 => Ret.ok ?_) (fun c2 => Ret.ok ?_)) (fun c1 => Ret.ok ?_)
    · rw [decide_eq_true_iff]
      obtain ⟨q1, q2⟩ := e3 c1
      obtain ⟨q3, q4⟩ := f3 c2
      constructor
      · intro e
        refine ⟨c1, (mem_grp v hj).1 ?_⟩
        have : i1 = i2 := by omega
        subst this
        rw [← q2, q4]
        exact (mem_grp v hj).2 .refl
      · intro e
        rw [(hsame e.2).1]
    · refine ⟨(fun e => by cases e), fun e => ?_⟩
      rw [← (hsame e.2).2, e.1] at c2; cases c2
    · refine ⟨(fun e => by cases e), fun e => ?_⟩
      rw [e.1] at c1; cases c1
  refine Ret.bind <| r_in_grp v hj fun near hnear => ?_
  obtain ⟨_, near⟩ := near
  have hnear : near = true ↔ RC h l strength i j := hnear
  dsimp only
  have hgg : (grp h l strength i).length = (gr h l strength i).length := by unfold grp; rw [List.length_map]
  have hp1 : p1 = decide (h.size ≤ ((grp h l strength i).length : Int)) := by
    rw [Bool.eq_iff_iff, decide_eq_true_iff, e2, hgg]; rfl
  have hlast : Ret (cond tog (some (!(near == true))) (cond near (some (!(near == decide (((grp h l strength i).length : Int) < h.size)))) (some (!(near == false))))) (fun b => b = false) := by
    refine Ret.cond (fun c => Ret.ok ?_) (fun c => Ret.cond (fun c2 => Ret.ok ?_) (fun c2 => Ret.ok ?_))
    · rw [hnear.2 (htog.1 c).2]; rfl
    · have h1 : p1 = false := by
        cases hp : p1 with
        | false => rfl
        | true => rw [htog.2 ⟨hp, hnear.1 c2⟩] at c; cases c
      rw [hp1] at h1
      have h1 := of_decide_eq_false h1
      rw [c2, decide_eq_true (by omega)]; rfl
    · rw [c2]; rfl
  refine Ret.bindM (Q' := fun b => b = false) (Ret.condF ?_ <| Ret.cond (fun c => ?_) (fun c => hlast)) fun b hb => Ret.condF hb ?_
  · rw [hp1]; simp
  · obtain ⟨q1, q2⟩ := e3 c
    refine Ret.bind <| ixR q1 <| Ret.bindM (r_SameInts (by rw [q2]; omega)) fun b hb => Ret.condF ?_ hlast
    rw [hb, q2]; simp
  rcases hwhy with ⟨hno, hr⟩ | ⟨s0, p, hW, hB, hr⟩
  · cases hr
    refine Ret.condT (by decide) <| Ret.bindM (apart_ok v hi (s := 1) (by omega) (by omega)) ?_
    rintro _ ⟨n1, _, rfl⟩
    refine Ret.bind <| r_in_grp v hj fun r hr => ?_
    obtain ⟨_, al⟩ := r
    have hal : al = false := by
      cases hb : al with
      | false => rfl
      | true => exact absurd (hr.1 hb) hno
    have hnf : near = false := by
      cases hb : near with
      | false => rfl
      | true => exact absurd ((hnear.1 hb).mono hs1) hno
    subst hal hnf
    exact Ret.bindM (Q' := fun b => b = true) (Ret.condT rfl <| Ret.condT rfl <| Ret.condT rfl <| Ret.condT rfl <| Ret.condT rfl <| Ret.ok rfl) fun b hb => Ret.ok hb
  · cases hr
    obtain ⟨m, hD, hP, _⟩ := hB
    have hm0 : 0 < m := by
      rcases Nat.eq_zero_or_pos m with e | e
      · subst e; exact absurd hD.1.symm hne
      · exact e
    have hmN : m < l.length := hD.lt hi
    have hpl := hP.len
    have htl : (ties h l p).length = m := by rw [ties_len, hpl]; omega
    refine Ret.condF rfl ?_
    refine Ret.bindM (Q' := fun r => r = Sum.inl (s0, idA l j)) (Ret.upto m (fun t (st : Int × Int × Int × FMap Int Bool) => ∃ a, p[t]? = some a ∧ st.1 = t ∧ s0 ≤ st.2.1 ∧ st.2.1 ≤ 6001 ∧ Wk l.length (w h l) st.2.1 i t a ∧ st.2.2.1 = idA l a ∧ ∀ z, (st.2.2.2 z).getD false = true ↔ ∃ u x, u ≤ t ∧ p[u]? = some x ∧ z = idA l x) ⟨i, ?_, rfl, ?_, ?_, rfl, rfl, fun z => ?_⟩ ?_ ?_) ?_
    · obtain ⟨x, h1, h2, _⟩ := hP.get 0 (by omega)
      have : x = i := h2.wk
      rw [h1, this]
    · have := hW.2.1; dsimp only; omega
    · exact Int.le_refl _
    · obtain ⟨x, h1, h2, _⟩ := hP.get 0 (by omega)
      have hx : x = i := h2.wk
      dsimp only
      unfold fput fnone
      constructor
      · intro e
        split at e
        · rename_i e2; exact ⟨0, i, by omega, by rw [h1, hx], e2⟩
        · cases e
      · rintro ⟨u, y, hu, hy, e⟩
        have : u = 0 := by omega
        subst this
        rw [h1, hx] at hy
        cases hy
        rw [if_pos e]; rfl
    · rintro t ht ⟨_, le, _, seen⟩ ⟨a, ha, rfl, k1, k2, k3, rfl, k4⟩
      obtain ⟨a', b, ha', hb, he⟩ := hP.edge t (by omega)
      rw [ha] at ha'; cases ha'
      have hab : a ≠ b := hP.ne hD (by omega) ha hb
      have hal : a < l.length := he.1
      have hbl : b < l.length := he.2.1
      have hwb := v.win_ a b
      have hws := he.2.2
      have hs0 := hW.1
      dsimp only at k1 k2 k3 k4 ⊢
      refine Ret.condT (by rw [htl]; exact lt_cast ht) <| Ret.bind <| Ret.ixo (ties_get ha hb) ?_
      refine Ret.bindM (r_ringWeight h (vd_len v) (vd_pl v) (idA l a) (idA l b)) ?_
      rintro ⟨w1, f1⟩ hw1
      rw [weight_ok v hal hbl hab] at hw1
      cases hw1
      refine Ret.bindM (Q' := fun b => b = false) (Ret.condF rfl <| Ret.condF ?_ <| Ret.condF ?_ <| Ret.condF (decide_eq_false (by omega)) <| Ret.ok ?_) fun bb hbb => Ret.condF hbb ?_
      · show (!decide (idA l a = idA l a)) = false
        simp
      · show (!decide (w h l a b = w h l a b)) = false
        simp
      · show (seen (idA l b)).getD false = false
        cases hse : (seen (idA l b)).getD false with
        | false => rfl
        | true =>
          obtain ⟨u, x, hu, hx, e⟩ := (k4 _).1 hse
          have hxl : x < l.length := hP.mem hi x (List.mem_of_getElem? hx)
          have : b = x := idA_inj v hbl hxl e
          subst this
          exact absurd hb (hP.apart hD (show u < t + 1 by omega) (by omega) hx)
      · refine Ret.bind <| Ret.chk (by omega) <| Ret.next ⟨b, hb, rfl, by dsimp only; omega, by dsimp only; omega, ?_, rfl, fun z => ?_⟩
        · exact ⟨a, k3.mono (show min le (w h l a b) ≤ le by omega), hal, hbl, by dsimp only; omega⟩
        · dsimp only
          unfold fput
          show ((if z = idA l b then some true else seen z).getD false = true) ↔ _
          constructor
          · intro e
            split at e
            · rename_i e2; exact ⟨t + 1, b, Nat.le_refl _, hb, e2⟩
            · obtain ⟨u, x, hu, hx⟩ := (k4 z).1 e
              exact ⟨u, x, by omega, hx⟩
          · rintro ⟨u, x, hu, hx, e⟩
            by_cases e2 : z = idA l b
            · rw [if_pos e2]; rfl
            · rw [if_neg e2]
              refine (k4 z).2 ⟨u, x, ?_, hx, e⟩
              rcases Nat.lt_or_ge t u with e3 | e3
              · have : u = t + 1 := by omega
                subst this
                rw [hb] at hx; cases hx
                exact absurd e e2
              · exact e3
    · rintro ⟨_, le, _, seen⟩ ⟨a, ha, rfl, k1, k2, k3, rfl, k4⟩
      dsimp only at k1 k2 k3 k4 ⊢
      refine Ret.condF (by rw [htl]; exact not_lt_cast) <| Ret.done ?_
      have e : a = j := by
        have := hP.last
        rw [ha] at this; cases this; rfl
      subst e
      have := (wide_iff hW).1 ⟨m, k3⟩
      have : le = s0 := by omega
      rw [this]
    · rintro _ rfl
      refine Ret.elimL ?_
      dsimp only
      have hs0 := hW.1
      have hs6 := hW.2.1
      refine Ret.bindM (Q' := fun b => b = false) (Ret.condF (by simp) <| Ret.condF (decide_eq_false (by rw [htl]; omega)) <| Ret.ok ?_) fun b hb => Ret.condF hb ?_
      · have : near = decide (strength ≤ s0) := by rw [Bool.eq_iff_iff, decide_eq_true_iff, hnear, wide_iff hW]
        rw [this]; simp
      · refine Ret.bindM (apart_ok v hi (s := s0) (by omega) (by omega)) ?_
        rintro _ ⟨n1, _, rfl⟩
        refine Ret.bind <| Ret.chk (by omega) <| Ret.bindM (apart_ok v hi (s := s0 + 1) (by omega) (by omega)) ?_
        rintro _ ⟨n2, _, rfl⟩
        refine Ret.bind <| r_in_grp v hj fun r hr => Ret.bind <| r_in_grp v hj fun r' hr' => ?_
        have h1 := hr.2 hW.2.2.1
        have h2 : r'.2 = false := by
          cases hb : r'.2 with
          | false => rfl
          | true => exact absurd (hr'.1 hb) hW.2.2.2
        refine Ret.bindM (Q' := fun b => b = true) (Ret.condT rfl <| Ret.condT rfl <| Ret.condT h1 <| Ret.condF (decide_eq_false (by omega)) <| Ret.condT rfl <| Ret.ok ?_) fun b hb => Ret.ok hb
        show (!r'.2) = true
        rw [h2]; rfl
end Go.Proofs.Ytdbogmmdogjhpaa
