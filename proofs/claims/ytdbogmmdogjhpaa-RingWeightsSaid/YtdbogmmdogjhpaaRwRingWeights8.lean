/-
  Part RingWeights 8 of the texts that the statement's proof stands on: what memory holds, how code is walked, what the functions reckon. In the order in which they build.
-/

import Derived.Test.YtdbogmmdogjhpaaRwRingWeights7
set_option linter.unusedVariables false
set_option linter.unusedSectionVars false
set_option maxRecDepth 20000
set_option maxHeartbeats 1000000
set_option linter.unusedVariables false
set_option linter.unusedSimpArgs false
namespace Go.Proofs.Ytdbogmmdogjhpaa
open Go Go.Sx
open Go.Rx (ixA)
noncomputable def wayL (h_ : Hunt_94) : Option (List Int) := loopM (S := (Int × (List Int))) (R := ((List Int))) (fun (x46, x47) => cond (decide (x46 < (h_.ids.length : Int))) (Option.bind (loopM (S := (Int × (List Int))) (R := ((List Int))) (fun (x48, x49) => cond (decide (x48 < (h_.ids.length : Int))) (Option.bind (loopM (S := (Int × (List Int))) (R := ((List Int))) (fun (x50, x51) => cond (decide (x50 < (h_.ids.length : Int))) (Option.bind (ixA 24 x48) fun i52 => Option.bind (ixA 24 x50) fun i53 => Option.bind (ixo x51 (i52 * 24 + i53 * 1)) fun y54 => Option.bind (ixA 24 x48) fun i55 => Option.bind (ixA 24 x46) fun i56 => Option.bind (ixo x51 (i55 * 24 + i56 * 1)) fun y57 => Option.bind (ixA 24 x46) fun i58 => Option.bind (ixA 24 x50) fun i59 => Option.bind (ixo x51 (i58 * 24 + i59 * 1)) fun y60 => Option.bind (ixA 24 x48) fun i61 => Option.bind (ixA 24 x50) fun i62 => Option.bind (seto x51 (i61 * 24 + i62 * 1) (max y54 (min y57 y60))) fun l63 => Option.bind (chk .i64 (x50 + 1)) fun n64 => some (Sum.inl (n64, l63))) (some (Sum.inr x51))) ((0 : Int), x49)) ((fun x65 => Option.bind (chk .i64 (x48 + 1)) fun n66 => some (Sum.inl (n66, x65))))) (some (Sum.inr x49))) ((0 : Int), x47)) ((fun x67 => Option.bind (chk .i64 (x46 + 1)) fun n68 => some (Sum.inl (n68, x67))))) (some (Sum.inr x47))) ((0 : Int), h_.weights)
theorem widest_eq (h_ : Hunt_94) (from_ to_ : Int) : P.ring_hunt_widest h_ from_ to_ = Option.bind (wayL h_) ((fun x69 => Option.bind (ixA 24 from_) fun i70 => Option.bind (ixA 24 to_) fun i71 => Option.bind (ixo x69 (i70 * 24 + i71 * 1)) fun y72 => cond (decide (y72 = 0)) (none) (Option.bind (ixA 24 from_) fun i73 => Option.bind (ixA 24 to_) fun i74 => Option.bind (ixo x69 (i73 * 24 + i74 * 1)) fun y75 => some y75))) := rfl
theorem widestp_eq (h_ : Hunt_94) (from_ to_ : Int) : P.ring_hunt_widest_p h_ from_ to_ = Option.bind (wayL h_) ((fun x69 => Option.bind (ixA 24 from_) fun i70 => Option.bind (ixA 24 to_) fun i71 => Option.bind (ixo x69 (i70 * 24 + i71 * 1)) fun y72 => cond (decide (y72 = 0)) (some (Apart.mk from_ to_)) (Option.bind (ixA 24 from_) fun i73 => Option.bind (ixA 24 to_) fun i74 => Option.bind (ixo x69 (i73 * 24 + i74 * 1)) fun y75 => none))) := rfl
open S
open Go.Rx (ixA)
/-- Numbers as Go has them. -/
def zl (p : List Nat) : List Int := p.map fun (n : Nat) => (n : Int)
theorem zl_len (p : List Nat) : (zl p).length = p.length := by simp [zl]
theorem zl_snoc (p : List Nat) (k : Nat) : zl p ++ [(k : Int)] = zl (p ++ [k]) := by simp [zl]
theorem zl_get {p : List Nat} {i k : Nat} (h : p[i]? = some k) : (zl p)[i]? = some (k : Int) := by simp [zl, h]
section
variable {h : Hunt} {l : List Filing} (v : Vd h l)
include v
omit v in
theorem wm_le {s : Int} (hs : 1 ≤ s) {a b : Nat} : s ≤ wm h l a b ↔ a ≠ b ∧ s ≤ w h l a b := by
  unfold wm
  by_cases e : a = b
  · rw [if_pos e]; exact ⟨fun h => by omega, fun h => absurd e h.1⟩
  · rw [if_neg e]; exact ⟨fun h => ⟨e, h⟩, fun h => h.2⟩
theorem wm_in (a b : Nat) : 0 ≤ wm h l a b ∧ wm h l a b ≤ 6000 := by
  unfold wm
  split
  · omega
  · exact v.win_ a b
omit v in
theorem hk_ids : (hk h l).ids.length = l.length := by simp [hk]
theorem r_way : Ret (wayL (hk h l)) (fun r => ∃ g, r = tab g ∧ (∀ a b, 0 ≤ g a b) ∧ ∀ s, 1 ≤ s → ∀ a b, a < l.length → b < l.length → (s ≤ g a b ↔ Wr s (wm h l) l.length a b)) := by
  have hlen := v.len
  unfold wayL
  refine Ret.upto l.length (fun n (t : Int × List Int) => ∃ g, t = ((n : Int), tab g) ∧ (∀ a b, 0 ≤ g a b) ∧ ∀ s, 1 ≤ s → ∀ a b, a < l.length → b < l.length → (s ≤ g a b ↔ Wr s (wm h l) n a b)) ⟨wm h l, rfl, fun a b => (wm_in v a b).1, fun s _ a b _ _ => Iff.rfl⟩ ?_ ?_
  · rintro n hn _ ⟨g, rfl, hg0, hg⟩
    dsimp only
    refine Ret.condT (by rw [hk_ids]; exact lt_cast hn) ?_
    refine Ret.bindM (Q' := fun r => ∃ g, r = tab g ∧ (∀ a b, 0 ≤ g a b) ∧ ∀ s, 1 ≤ s → ∀ a b, a < l.length → b < l.length → (s ≤ g a b ↔ Wr s (wm h l) (n + 1) a b)) (Ret.upto l.length (fun i (t : Int × List Int) => ∃ g, t = ((i : Int), tab g) ∧ (∀ a b, 0 ≤ g a b) ∧ ∀ s, 1 ≤ s → ∀ a b, a < l.length → b < l.length → (s ≤ g a b ↔ if a < i then Wr s (wm h l) (n + 1) a b else Wr s (wm h l) n a b)) ⟨g, rfl, hg0, fun s hs a b ha hb => by rw [if_neg (by omega)]; exact hg s hs a b ha hb⟩ ?_ ?_) ?_
    · rintro i hi _ ⟨g, rfl, hg0, hg⟩
      dsimp only
      refine Ret.condT (by rw [hk_ids]; exact lt_cast hi) ?_
      refine Ret.bindM (Q' := fun r => ∃ g, r = tab g ∧ (∀ a b, 0 ≤ g a b) ∧ ∀ s, 1 ≤ s → ∀ a b, a < l.length → b < l.length → (s ≤ g a b ↔ if a < i + 1 then Wr s (wm h l) (n + 1) a b else Wr s (wm h l) n a b)) (Ret.upto l.length (fun k (t : Int × List Int) => ∃ g, t = ((k : Int), tab g) ∧ (∀ a b, 0 ≤ g a b) ∧ ∀ s, 1 ≤ s → ∀ a b, a < l.length → b < l.length → (s ≤ g a b ↔ if a < i ∨ (a = i ∧ b < k) then Wr s (wm h l) (n + 1) a b else Wr s (wm h l) n a b)) ⟨g, rfl, hg0, fun s hs a b ha hb => by rw [hg s hs a b ha hb]; by_cases e : a < i <;> simp [e]⟩ ?_ ?_) ?_
      · rintro k hk' _ ⟨g, rfl, hg0, hg⟩
        dsimp only
        refine Ret.condT (by rw [hk_ids]; exact lt_cast hk') ?_
        refine Ret.bind <| r_ixA (by omega) <| Ret.bind <| r_ixA (by omega) <| Ret.bind <| r_tab (by omega) (by omega) <| Ret.bind <| r_ixA (by omega) <| Ret.bind <| r_ixA (by omega) <| Ret.bind <| r_tab (by omega) (by omega) <| Ret.bind <| r_ixA (by omega) <| Ret.bind <| r_ixA (by omega) <| Ret.bind <| r_tab (by omega) (by omega) <| Ret.bind <| r_ixA (by omega) <| Ret.bind <| r_ixA (by omega) <| Ret.bind <| r_tabS (by omega) (by omega) <| Ret.bind <| Ret.chk (by omega) <| Ret.next ⟨_, rfl, fun a b => ?_, fun s hs a b ha hb => ?_⟩
        · unfold upd2
          split
          · have := hg0 i k; omega
          · exact hg0 a b
        · unfold upd2
          have e1 : s ≤ g i n ↔ Wr s (wm h l) n i n := by
            rw [hg s hs i n hi hn]
            split
            · exact wr_row
            · exact Iff.rfl
          have e2 : s ≤ g n k ↔ Wr s (wm h l) n n k := by
            rw [hg s hs n k hn hk']
            split
            · exact wr_col
            · exact Iff.rfl
          by_cases e : a = i ∧ b = k
          · obtain ⟨rfl, rfl⟩ := e
            rw [if_pos ⟨rfl, rfl⟩, if_pos (.inr ⟨rfl, by omega⟩)]
            have e3 := hg s hs a b hi hk'
            rw [if_neg (by omega)] at e3
            show _ ↔ Wr s (wm h l) n a b ∨ (Wr s (wm h l) n a n ∧ Wr s (wm h l) n n b)
            rw [← e1, ← e2, ← e3]
            omega
          · rw [if_neg e, hg s hs a b ha hb]
            by_cases e5 : a < i ∨ (a = i ∧ b < k)
            · rw [if_pos e5, if_pos (by omega)]
            · rw [if_neg e5, if_neg (by omega)]
      · rintro _ ⟨g, rfl, hg0, hg⟩
        dsimp only
        refine Ret.condF (by rw [hk_ids]; exact not_lt_cast) (Ret.done ⟨g, rfl, hg0, fun s hs a b ha hb => ?_⟩)
        rw [hg s hs a b ha hb]
        by_cases e5 : a < i + 1
        · rw [if_pos e5, if_pos (by omega)]
        · rw [if_neg e5, if_neg (by omega)]
      · rintro _ ⟨g, rfl, hg0, hg⟩
        exact Ret.bind (Ret.chk (by omega) (Ret.next ⟨g, rfl, hg0, hg⟩))
    · rintro _ ⟨g, rfl, hg0, hg⟩
      dsimp only
      refine Ret.condF (by rw [hk_ids]; exact not_lt_cast) (Ret.done ⟨g, rfl, hg0, fun s hs a b ha hb => ?_⟩)
      rw [hg s hs a b ha hb, if_pos ha]
    · rintro _ ⟨g, rfl, hg0, hg⟩
      exact Ret.bind (Ret.chk (by omega) (Ret.next ⟨g, rfl, hg0, hg⟩))
  · rintro _ ⟨g, rfl, hg0, hg⟩
    dsimp only
    exact Ret.condF (by rw [hk_ids]; exact not_lt_cast) (Ret.done ⟨g, rfl, hg0, hg⟩)
omit v in
theorem wr_iff {s : Int} (hs : 1 ≤ s) {i k : Nat} (hi : i < l.length) (hk : k < l.length) (hne : i ≠ k) : Wr s (wm h l) l.length i k ↔ Rc l.length (w h l) s i k :=
  ⟨fun hr => wr_rc (fun a b hab => ((wm_le hs).1 hab).2) (Nat.le_refl _) hi hk hr, fun hr => (rc_wr (fun a b hne hab => (wm_le hs).2 ⟨hne, hab⟩) hr).resolve_left hne⟩
theorem r_widest {i k : Nat} (hi : i < l.length) (hk' : k < l.length) (hne : i ≠ k) :
    (Rc l.length (w h l) 1 i k → Ret (P.ring_hunt_widest (hk h l) i k) fun b => 1 ≤ b ∧ b ≤ 6000 ∧ Rc l.length (w h l) b i k ∧ ¬ Rc l.length (w h l) (b + 1) i k) ∧
    (¬ Rc l.length (w h l) 1 i k → P.ring_hunt_widest (hk h l) i k = none ∧ P.ring_hunt_widest_p (hk h l) i k = some (Apart.mk i k)) := by
  have hlen := v.len
  obtain ⟨_, h1, g, rfl, hg0, hg⟩ := r_way v
  rw [widest_eq, widestp_eq, h1]
  have ha : ixA 24 (i : Int) = some (i : Int) := by unfold ixA; rw [if_pos ⟨by omega, by omega⟩]
  have hb : ixA 24 (k : Int) = some (k : Int) := by unfold ixA; rw [if_pos ⟨by omega, by omega⟩]
  have ht : ixo (tab g) ((i : Int) * 24 + (k : Int) * 1) = some (g i k) := by
    rw [show ((i : Int) * 24 + (k : Int) * 1) = ((i * 24 + k : Nat) : Int) by omega]
    exact ixo_at (tab_get (by omega) (by omega))
  have hg1 := fun s hs => (hg s hs i k hi hk').trans (wr_iff hs hi hk' hne)
  have h0 := hg0 i k
  constructor
  · intro hr
    have h2 := (hg1 1 (by omega)).2 hr
    rw [bindS]
    refine Ret.bind <| r_ixA (by omega) <| Ret.bind <| r_ixA (by omega) <| Ret.bind <| r_tab (by omega) (by omega) <| Ret.condF (decide_eq_false (by omega)) <| Ret.bind <| r_ixA (by omega) <| Ret.bind <| r_ixA (by omega) <| Ret.bind <| r_tab (by omega) (by omega) <| Ret.ok ⟨h2, ?_, (hg1 _ h2).1 (Int.le_refl _), fun hn => ?_⟩
    · have h3 := (hg1 _ h2).1 (Int.le_refl _)
      rcases Int.lt_or_le 6000 (g i k) with h4 | h4
      · exfalso
        have h6 := Rc.ind (p := fun x => x = i) rfl (fun a b _ he => absurd (Int.le_trans he.2.2 (v.win_ a b).2) (by omega)) h3
        exact hne h6.symm
      · exact h4
    · have := (hg1 (g i k + 1) (by omega)).2 hn
      omega
  · intro hr
    have h2 : ¬ 1 ≤ g i k := fun h => hr ((hg1 1 (by omega)).1 h)
    have h3 : g i k = 0 := by omega
    rw [h3] at ht
    constructor
    · rw [bindS, ha, bindS, hb, bindS, ht, bindS]; rfl
    · rw [bindS, ha, bindS, hb, bindS, ht, bindS]; rfl
/-! Chains. -/
abbrev VS (l : List Filing) (h : Hunt) (s : Int) (i d : Nat) (L : List (List Nat × Nat)) : Prop :=
  (∀ x ∈ L, Pw l.length (w h l) s i d x.1 x.2 ∧ IsD l.length (w h l) s i x.2 d) ∧
  L.Pairwise (fun x y => val l.length x.1 < val l.length y.1) ∧
  (∀ q c, Pw l.length (w h l) s i d q c → IsD l.length (w h l) s i c d → ∃ x ∈ L, x.2 = c ∧ val l.length x.1 ≤ val l.length q) ∧
  (L.map (·.2)).Nodup
omit v in
theorem r_Clone {s : List Int} (hs : s.length ≤ 1000000) : Ret (P.slices_Clone_69 s) (· = s) := by
  have e : appo 8 ([] : List Int) s = some s := by rw [appo_ok (by simp; omega) (by simp; omega)]; rfl
  refine ⟨s, ?_, rfl⟩
  unfold P.slices_Clone_69
  rw [e, bindS]
  unfold nilq
  by_cases h0 : s = []
  · subst h0
    rw [if_pos rfl]
    refine (if_pos ?_).trans ?_ <;> rfl
  · rw [if_neg h0]; rfl
/-- Where a scan of walks stands: what was made of walks ahead of (n, k). -/
structure Sc (h : Hunt) (l : List Filing) (s : Int) (i d : Nat) (L : List (List Nat × Nat)) (dn : Nat → Nat → Prop) (L' : List (List Nat × Nat)) (m : FMap Int Bool) : Prop where
  a : ∀ x ∈ L', ∃ (a : Nat) (y : List Nat × Nat), L[a]? = some y ∧ dn a x.2 ∧ x.1 = y.1 ++ [x.2] ∧ Ed l.length (w h l) s y.2 x.2 ∧ IsD l.length (w h l) s i x.2 (d + 1)
  b : L'.Pairwise (fun x y => val l.length x.1 < val l.length y.1)
  c : ∀ (a : Nat) (y : List Nat × Nat), L[a]? = some y → ∀ c : Nat, dn a c → Ed l.length (w h l) s y.2 c → IsD l.length (w h l) s i c (d + 1) → ∃ x ∈ L', x.2 = c ∧ val l.length x.1 ≤ val l.length (y.1 ++ [c])
  d : ∀ c : Nat, c < l.length → ((m c).getD false = true ↔ (∃ m ≤ d, IsD l.length (w h l) s i c m) ∨ ∃ x ∈ L', x.2 = c)
  f : (L'.map (·.2)).Nodup
omit v in
theorem Sc.len {s : Int} {i d : Nat} {L L' : List (List Nat × Nat)} {dn : Nat → Nat → Prop} {m : FMap Int Bool} (hsc : Sc h l s i d L dn L' m) : L'.length ≤ l.length := by
  have := nodup_len hsc.f fun x hx => by
    obtain ⟨y, hy, rfl⟩ := List.mem_map.1 hx
    obtain ⟨_, _, _, _, _, he, _⟩ := hsc.a y hy
    exact he.2.1
  simpa using this
omit v in
theorem Sc.to {s : Int} {i d : Nat} {L L' : List (List Nat × Nat)} {dn dn' : Nat → Nat → Prop} {m : FMap Int Bool} (hsc : Sc h l s i d L dn L' m) (h1 : ∀ a c, a < L.length → c < l.length → (dn a c ↔ dn' a c)) : Sc h l s i d L dn' L' m :=
  ⟨fun x hx => by
    obtain ⟨a, y, h2, h3, h4, h5, h6⟩ := hsc.a x hx
    exact ⟨a, y, h2, (h1 a x.2 (get_lt h2) h5.2.1).1 h3, h4, h5, h6⟩, hsc.b, fun a y h2 c h3 h4 => hsc.c a y h2 c ((h1 a c (get_lt h2) h4.2.1).2 h3) h4, hsc.d, hsc.f⟩
omit v in
theorem VS.next {s : Int} {i d : Nat} {L L' : List (List Nat × Nat)} {m : FMap Int Bool} (hV : VS l h s i d L) (hsc : Sc h l s i d L (fun a c => True) L' m) : VS l h s i (d + 1) L' := by
  refine ⟨fun x hx => ?_, hsc.b, fun q c hq hc => ?_, hsc.f⟩
  · obtain ⟨a, y, h2, h3, h4, h5, h6⟩ := hsc.a x hx
    rw [h4]
    exact ⟨.cons (hV.1 y (List.mem_of_getElem? h2)).1 h5, h6⟩
  · cases hq with
    | @cons _ p j _ h1 he =>
      have hj : IsD l.length (w h l) s i j d := ⟨h1.wk, fun m' hm' h3 => hc.2 (m' + 1) (by omega) ⟨j, h3, he⟩⟩
      obtain ⟨x, hx, h3, h4⟩ := hV.2.2.1 p j h1 hj
      obtain ⟨a, ha⟩ := List.getElem?_of_mem hx
      obtain ⟨x', h5, h6, h7⟩ := hsc.c a x ha c trivial (h3 ▸ he) hc
      refine ⟨x', h5, h6, Nat.le_trans h7 ?_⟩
      rw [val_snoc, val_snoc]
      have := Nat.mul_le_mul_right l.length h4
      omega
omit v in
theorem Sc.add {s : Int} {i d n c : Nat} {L L' : List (List Nat × Nat)} {m : FMap Int Bool} (hV : VS l h s i d L) {y : List Nat × Nat} (hy : L[n]? = some y) (hc : c < l.length) (hns : (m c).getD false = false) (he : Ed l.length (w h l) s y.2 c) (hsc : Sc h l s i d L (fun a x => a < n ∨ (a = n ∧ x < c)) L' m) :
    Sc h l s i d L (fun a x => a < n ∨ (a = n ∧ x < c + 1)) (L' ++ [(y.1 ++ [c], c)]) (fput m c true) := by
  obtain ⟨hyp, hyd⟩ := hV.1 y (List.mem_of_getElem? hy)
  have hns2 : ¬ ((∃ m ≤ d, IsD l.length (w h l) s i c m) ∨ ∃ x ∈ L', x.2 = c) := fun h => by rw [(hsc.d c hc).2 h] at hns; cases hns
  have hcd : IsD l.length (w h l) s i c (d + 1) := by
    obtain ⟨q, hq, h2⟩ := hyd.next he
    by_cases e : q = d + 1
    · subst e; exact h2
    · exact absurd (.inl ⟨q, by omega, h2⟩) hns2
  refine ⟨fun x hx => ?_, ?_, fun a z hz x ha hez hd => ?_, fun x hx => ?_, ?_⟩
  · rcases List.mem_append.1 hx with hx | hx
    · obtain ⟨a, z, h1, h2, h3⟩ := hsc.a x hx
      exact ⟨a, z, h1, by omega, h3⟩
    · rw [List.mem_singleton.1 hx]
      exact ⟨n, y, hy, .inr ⟨rfl, by omega⟩, rfl, he, hcd⟩
  · rw [List.pairwise_append]
    refine ⟨hsc.b, by simp, fun x hx z hz => ?_⟩
    rw [List.mem_singleton.1 hz]
    obtain ⟨a, u, h1, h2, h3, h4, h5⟩ := hsc.a x hx
    rw [h3]
    rcases h2 with h2 | ⟨rfl, h2⟩
    · refine val_lt h4.2.1 ?_
      obtain ⟨g1, rfl⟩ := List.getElem?_eq_some_iff.1 h1
      obtain ⟨g2, rfl⟩ := List.getElem?_eq_some_iff.1 hy
      exact (List.pairwise_iff_getElem.1 hV.2.1) a n g1 g2 h2
    · rw [hy] at h1; cases h1
      dsimp only
      rw [val_snoc, val_snoc]; omega
  · by_cases e : a < n ∨ (a = n ∧ x < c)
    · obtain ⟨u, h1, h2, h3⟩ := hsc.c a z hz x e hez hd
      exact ⟨u, List.mem_append_left _ h1, h2, h3⟩
    · obtain ⟨rfl, rfl⟩ : a = n ∧ x = c := by omega
      rw [hy] at hz; cases hz
      exact ⟨_, List.mem_append_right _ (List.mem_singleton.2 rfl), rfl, Nat.le_refl _⟩
  · simp only [fput]
    by_cases e : x = c
    · subst e
      rw [if_pos rfl]
      simp only [Option.getD_some, true_iff]
      exact .inr ⟨_, List.mem_append_right _ (List.mem_singleton.2 rfl), rfl⟩
    · rw [if_neg (by omega), hsc.d x hx]
      constructor
      · rintro (h1 | ⟨z, h1, h2⟩)
        · exact .inl h1
        · exact .inr ⟨z, List.mem_append_left _ h1, h2⟩
      · rintro (h1 | ⟨z, h1, h2⟩)
        · exact .inl h1
        · rcases List.mem_append.1 h1 with h1 | h1
          · exact .inr ⟨z, h1, h2⟩
          · rw [List.mem_singleton.1 h1] at h2; exact absurd h2.symm e
  · rw [List.map_append, List.nodup_append]
    refine ⟨hsc.f, by simp, fun a ha b hb e => ?_⟩
    obtain ⟨z, hz, rfl⟩ := List.mem_map.1 ha
    have hb : b = c := by simpa using hb
    exact hns2 (.inr ⟨z, hz, e.trans hb⟩)
omit v in
theorem Sc.pass {s : Int} {i d n c : Nat} {L L' : List (List Nat × Nat)} {m : FMap Int Bool} (hV : VS l h s i d L) {y : List Nat × Nat} (hy : L[n]? = some y) (hc : c < l.length) (hno : (m c).getD false = false → ¬ (y.2 ≠ c ∧ s ≤ w h l y.2 c)) (hsc : Sc h l s i d L (fun a x => a < n ∨ (a = n ∧ x < c)) L' m) :
    Sc h l s i d L (fun a x => a < n ∨ (a = n ∧ x < c + 1)) L' m := by
  obtain ⟨hyp, hyd⟩ := hV.1 y (List.mem_of_getElem? hy)
  refine ⟨fun x hx => ?_, hsc.b, fun a z hz x ha hez hd => ?_, hsc.d, hsc.f⟩
  · obtain ⟨a, z, h1, h2, h3⟩ := hsc.a x hx
    exact ⟨a, z, h1, by omega, h3⟩
  · by_cases e : a < n ∨ (a = n ∧ x < c)
    · exact hsc.c a z hz x e hez hd
    · obtain ⟨rfl, rfl⟩ : a = n ∧ x = c := by omega
      rw [hy] at hz; cases hz
      have hne : y.2 ≠ x := fun e2 => by
        rw [← e2] at hd
        have := hd.uniq hyd; omega
      cases hmx : (m x).getD false with
      | false => exact absurd ⟨hne, hez.2.2⟩ (hno hmx)
      | true =>
        rcases (hsc.d x hc).1 hmx with ⟨q, h1, h2⟩ | ⟨z, h1, h2⟩
        · have := h2.uniq hd; omega
        · refine ⟨z, h1, h2, ?_⟩
          obtain ⟨b, u, h3, h4, h5, h6, h7⟩ := hsc.a z h1
          rw [h5, val_snoc, val_snoc, h2]
          have hb : b < a := by
            rcases h4 with h4 | ⟨_, h4⟩
            · exact h4
            · omega
          obtain ⟨g1, rfl⟩ := List.getElem?_eq_some_iff.1 h3
          obtain ⟨g2, rfl⟩ := List.getElem?_eq_some_iff.1 hy
          have := (List.pairwise_iff_getElem.1 hV.2.1) b a g1 g2 hb
          have := Nat.mul_le_mul_right l.length (Nat.le_of_lt this)
          omega
theorem round {s : Int} (hs : 1 ≤ s) {i k : Nat} (hi : i < l.length) (hk' : k < l.length) {D : Nat} (hD : IsD l.length (w h l) s i k D) {d : Nat} (hd : d ≤ D) {L : List (List Nat × Nat)} {m : FMap Int Bool} (hV : VS l h s i d L) (hm : ∀ c : Nat, c < l.length → ((m c).getD false = true ↔ ∃ m ≤ d, IsD l.length (w h l) s i c m)) {Q : (List (List Int) × FMap Int Bool) ⊕ List Int → Prop}
    (q1 : d = D → ∀ p, Best l.length (w h l) s i k p → Q (.inr (zl p))) (q2 : d < D → ∀ L' m', VS l h s i (d + 1) L' → L' ≠ [] → (∀ c : Nat, c < l.length → ((m' c).getD false = true ↔ ∃ m ≤ d + 1, IsD l.length (w h l) s i c m)) → Q (.inl (L'.map (fun x => zl x.1), m'))) :
    Ret (loopM (S := ((List (List Int)) × Int × (FMap Int Bool))) (R := (((List (List Int)) × (FMap Int Bool)) ⊕ (List Int))) (fun (x56, x57, x58) => cond (decide (x57 < ((L.map (fun x => zl x.1)).length : Int))) (Option.bind (ixo (L.map (fun x => zl x.1)) x57) fun y59 => Option.bind (chk .i64 ((y59.length : Int) - 1)) fun n60 => Option.bind (ixo y59 n60) fun y61 => cond (decide (y61 = (k : Int))) (some (Sum.inr (Sum.inr y59))) (Option.bind (loopM (S := ((List (List Int)) × Int × (FMap Int Bool))) (R := ((List (List Int)) × (FMap Int Bool))) (fun (x62, x63, x64) => cond (decide (x63 < ((hk h l).ids.length : Int))) (Option.bind (α := (Bool)) (cond ((!((x64 x63).getD false))) (Option.bind (ixA 24 y61) fun i65 => Option.bind (ixA 24 x63) fun i66 => Option.bind (ixo (hk h l).weights (i65 * 24 + i66 * 1)) fun y67 => some (decide (s ≤ y67))) (some false)) ((fun x68 => Option.bind (α := ((List (List Int)) × (FMap Int Bool))) (cond (x68) (Option.bind (P.slices_Clone_69 y59) fun r69 => Option.bind (appo 8 r69 ([x63])) fun l70 => Option.bind (appo 24 x62 ([l70])) fun l71 => some (l71, (fput x64 x63 true))) (some (x62, x64))) ((fun (x72, x73) => Option.bind (chk .i64 (x63 + 1)) fun n74 => some (Sum.inl (x72, n74, x73))))))) (some (Sum.inr (x62, x64)))) (x56, (0 : Int), x58)) ((fun (x75, x76) => Option.bind (chk .i64 (x57 + 1)) fun n77 => some (Sum.inl (x75, n77, x76)))))) (some (Sum.inr (Sum.inl (x56, x58))))) (([] : (List (List Int))), (0 : Int), m)) Q := by
  have hlen := v.len
  have hDN := hD.lt hi
  have hLl : L.length ≤ l.length := by
    have := nodup_len hV.2.2.2 fun x hx => by
      obtain ⟨y, hy, rfl⟩ := List.mem_map.1 hx
      exact (hV.1 y hy).1.wk.lt hi
    simpa using this
  refine Ret.upto L.length (fun n t => ∃ L', t.1 = L'.map (fun x => zl x.1) ∧ t.2.1 = (n : Int) ∧ Sc h l s i d L (fun a c => a < n) L' t.2.2 ∧ ∀ a < n, ∀ y, L[a]? = some y → y.2 ≠ k) ⟨[], rfl, rfl, ⟨fun x hx => (by cases hx), .nil, fun a y h1 c h2 => (by omega), fun c hc => (by rw [hm c hc]; simp), (by simp)⟩, fun a ha => (by omega)⟩ ?_ ?_
  · rintro n hn ⟨_, _, m'⟩ ⟨L', rfl, rfl, hsc, hno⟩
    dsimp only at hsc ⊢
    have hy := List.getElem?_eq_getElem hn
    obtain ⟨hyp, hyd⟩ := hV.1 _ (List.getElem_mem hn)
    generalize L[n] = y at hy hyp hyd
    refine Ret.condT (by rw [List.length_map]; exact lt_cast hn) <| Ret.bind <| Ret.ixo (y := zl y.1) (by rw [List.getElem?_map, hy]; rfl) <| Ret.bind <| Ret.chk (by rw [zl_len, hyp.len]; omega) ?_
    rw [show ((zl y.1).length : Int) - 1 = (d : Int) by rw [zl_len, hyp.len]; omega]
    refine Ret.bind <| Ret.ixo (zl_get hyp.last) <| Ret.cond (fun he => Ret.done ?_) (fun he => ?_)
    · have he : y.2 = k := by have := of_decide_eq_true he; omega
      rw [he] at hyd hyp
      refine q1 (hyd.uniq hD) y.1 ⟨d, hyd, hyp, fun q hq => ?_⟩
      obtain ⟨x, hx, h1, h2⟩ := hV.2.2.1 q k hq hyd
      obtain ⟨a, ha⟩ := List.getElem?_of_mem hx
      have : a = n := by
        obtain ⟨g1, e1⟩ := List.getElem?_eq_some_iff.1 ha
        obtain ⟨g2, e2⟩ := List.getElem?_eq_some_iff.1 hy
        have hnd := List.pairwise_iff_getElem.1 (show List.Pairwise (· ≠ ·) _ from hV.2.2.2)
        rcases Nat.lt_trichotomy a n with h3 | h3 | h3
        · have := hnd a n (by simpa using g1) (by simpa using g2) h3
          simp only [List.getElem_map] at this
          rw [e1, e2, h1, he] at this
          exact absurd rfl this
        · exact h3
        · have := hnd n a (by simpa using g2) (by simpa using g1) h3
          simp only [List.getElem_map] at this
          rw [e1, e2, h1, he] at this
          exact absurd rfl this
      subst this
      rw [hy] at ha; cases ha
      exact h2
    · have he : y.2 ≠ k := fun e => by have := of_decide_eq_false he; omega
      have hyl : y.2 < l.length := hyp.wk.lt hi
      refine Ret.bindM (Q' := fun r => ∃ L', r.1 = L'.map (fun x => zl x.1) ∧ Sc h l s i d L (fun a c => a < n + 1) L' r.2) (Ret.upto l.length (fun c t => ∃ L', t.1 = L'.map (fun x => zl x.1) ∧ t.2.1 = (c : Int) ∧ Sc h l s i d L (fun a x => a < n ∨ (a = n ∧ x < c)) L' t.2.2) ⟨L', rfl, rfl, hsc.to fun a c _ _ => by omega⟩ ?_ ?_) ?_
      · rintro c hc ⟨_, _, m2⟩ ⟨L2, rfl, rfl, hs2⟩
        dsimp only at hs2 ⊢
        have h2l := hs2.len
        refine Ret.condT (by rw [hk_ids]; exact lt_cast hc) ?_
        refine Ret.bindM (Q' := fun b => b = decide ((m2 c).getD false = false ∧ (y.2 ≠ c ∧ s ≤ w h l y.2 c))) (Ret.cond (fun hb => ?_) (fun hb => Ret.ok ?_)) ?_
        · have hb : (m2 c).getD false = false := by simpa using hb
          refine Ret.bind <| r_ixA (by omega) <| Ret.bind <| r_ixA (by omega) <| Ret.bind <| r_tab (by omega) (by omega) <| Ret.ok ?_
          rw [decide_eq_decide, wm_le hs]
          exact ⟨fun h => ⟨hb, h⟩, fun h => h.2⟩
        · have hb : ¬ (m2 c).getD false = false := by simpa using hb
          exact (decide_eq_false fun h => hb h.1).symm
        rintro _ rfl
        refine Ret.bindM (Q' := fun r => ∃ L', r.1 = L'.map (fun x => zl x.1) ∧ Sc h l s i d L (fun a x => a < n ∨ (a = n ∧ x < c + 1)) L' r.2) (Ret.cond (fun hb => ?_) (fun hb => Ret.ok ?_)) ?_
        · obtain ⟨hb1, hb2, hb3⟩ := of_decide_eq_true hb
          have hpl := hyp.len
          have hdd := hyd.lt hi
          refine Ret.bindM (r_Clone (by rw [zl_len]; omega)) ?_
          rintro _ rfl
          refine Ret.bind <| Ret.appo (by simp [zl_len]; omega) (by simp [zl_len]; omega) <| Ret.bind <| Ret.appo (by simp; omega) (by simp; omega) <| Ret.ok ⟨L2 ++ [(y.1 ++ [c], c)], ?_, hs2.add hV hy hc hb1 ⟨hyl, hc, hb3⟩⟩
          rw [zl_snoc, List.map_append]; rfl
        · have hb := of_decide_eq_false hb
          exact ⟨L2, rfl, hs2.pass hV hy hc fun h1 h2 => hb ⟨h1, h2⟩⟩
        · rintro ⟨_, m3⟩ ⟨L3, rfl, hs3⟩
          exact Ret.bind <| Ret.chk (by omega) <| Ret.next ⟨L3, rfl, rfl, hs3⟩
      · rintro ⟨_, _, m2⟩ ⟨L2, rfl, rfl, hs2⟩
        dsimp only at hs2 ⊢
        exact Ret.condF (by rw [hk_ids]; exact not_lt_cast) <| Ret.done ⟨L2, rfl, hs2.to fun a c _ _ => by omega⟩
      · rintro ⟨_, m2⟩ ⟨L2, rfl, hs2⟩
        refine Ret.bind <| Ret.chk (by omega) <| Ret.next ⟨L2, rfl, rfl, hs2, fun a ha z hz => ?_⟩
        by_cases e : a = n
        · subst e; rw [hy] at hz; cases hz; exact he
        · exact hno a (by omega) z hz
  · rintro ⟨_, _, m'⟩ ⟨L', rfl, rfl, hsc, hno⟩
    dsimp only at hsc ⊢
    refine Ret.condF (by rw [List.length_map]; exact not_lt_cast) <| Ret.done ?_
    have hV' := hV.next (hsc.to (dn' := fun _ _ => True) fun a c ha _ => by simp [ha])
    have hlt : d < D := by
      rcases Nat.lt_or_ge d D with h1 | h1
      · exact h1
      · have : d = D := by omega
        subst this
        obtain ⟨p, hp⟩ := Pw.of hD.1
        obtain ⟨x, hx, h2, _⟩ := hV.2.2.1 p k hp hD
        obtain ⟨a, ha⟩ := List.getElem?_of_mem hx
        exact absurd h2 (hno a (get_lt ha) x ha)
    refine q2 hlt L' m' hV' (fun e => ?_) fun c hc => ?_
    · obtain ⟨j, hj⟩ := hD.all (d + 1) hlt
      obtain ⟨p, hp⟩ := Pw.of hj.1
      obtain ⟨x, hx, _⟩ := hV'.2.2.1 p j hp hj
      rw [e] at hx; cases hx
    · rw [hsc.d c hc]
      constructor
      · rintro (⟨q, h1, h2⟩ | ⟨x, hx, rfl⟩)
        · exact ⟨q, by omega, h2⟩
        · exact ⟨d + 1, Nat.le_refl _, (hV'.1 x hx).2⟩
      · rintro ⟨q, h1, h2⟩
        by_cases e : q = d + 1
        · subst e
          obtain ⟨p, hp⟩ := Pw.of h2.1
          obtain ⟨x, hx, h3, _⟩ := hV'.2.2.1 p c hp h2
          exact .inr ⟨x, hx, h3⟩
        · exact .inl ⟨q, by omega, h2⟩
theorem r_chain {s : Int} (hs : 1 ≤ s) {i k : Nat} (hi : i < l.length) (hk' : k < l.length) (hr : Rc l.length (w h l) s i k) :
    Ret (P.ring_hunt_chain (hk h l) i k s) fun r => ∃ p, r = zl p ∧ Best l.length (w h l) s i k p := by
  obtain ⟨D, hD⟩ := IsD.of hr
  unfold P.ring_hunt_chain
  refine Ret.bindM (Q' := fun r => ∃ p, r = zl p ∧ Best l.length (w h l) s i k p) (Ret.upto D (fun d (t : List (List Int) × FMap Int Bool) => ∃ L, t.1 = L.map (fun x => zl x.1) ∧ VS l h s i d L ∧ (∀ c : Nat, c < l.length → ((t.2 c).getD false = true ↔ ∃ m ≤ d, IsD l.length (w h l) s i c m))) ?_ ?_ ?_) fun r hr => Ret.ok hr
  · refine ⟨[([i], i)], by simp [zl], ⟨fun x hx => ?_, by simp, fun q c hq hc => ?_, by simp⟩, fun c hc => ?_⟩
    · rw [List.mem_singleton.1 hx]; exact ⟨.nil, .zero⟩
    · cases hq; exact ⟨_, List.mem_singleton.2 rfl, rfl, Nat.le_refl _⟩
    · simp only [fput]
      by_cases e : c = i
      · rw [if_pos (by omega)]
        simp only [Option.getD_some, true_iff]
        exact ⟨0, Nat.le_refl _, e ▸ .zero⟩
      · rw [if_neg (by omega)]
        simp only [fnone, Option.getD_none, Bool.false_eq_true, false_iff]
        rintro ⟨m, hm, h2⟩
        have : m = 0 := by omega
        subst this
        exact e h2.1
  · rintro d hd ⟨_, m⟩ ⟨L, rfl, hV, hm⟩
    dsimp only at hm ⊢
    refine Ret.bind (round v hs hi hk' hD (Nat.le_of_lt hd) hV hm (fun e => by omega) fun _ L' m' hV' hne hm' => ?_)
    refine Ret.elimL ?_
    dsimp only
    refine Ret.condT (decide_eq_true ?_) (Ret.next ⟨L', rfl, hV', hm'⟩)
    rw [List.length_map]
    have := List.length_pos_iff.2 hne
    omega
  · rintro ⟨_, m⟩ ⟨L, rfl, hV, hm⟩
    dsimp only at hm ⊢
    refine Ret.bind (round v hs hi hk' hD (Nat.le_refl _) hV hm (fun _ p hp => ?_) fun hlt => by omega)
    exact Ret.elimR (Ret.done ⟨p, rfl, hp⟩)
end
end Go.Proofs.Ytdbogmmdogjhpaa
set_option maxRecDepth 20000
set_option maxHeartbeats 1000000
set_option linter.unusedVariables false
set_option linter.unusedSimpArgs false
namespace Go.Sx
theorem Ret.thro {ε Z : Type} {o : Option ε} {K : ε → Option Z} {z : Option Z} {Q : Z → Prop} (h : Ret z Q) : Ret (Go.Rx.thro o K z) Q := by
  obtain ⟨a, h1, h2⟩ := h
  exact ⟨a, by unfold Go.Rx.thro; rw [h1], h2⟩
theorem Ret.threw {ε Z : Type} {o : Option ε} {K : ε → Option Z} {z : Option Z} {Q : Z → Prop} {e : ε} (hz : z = none) (ho : o = some e) (h : Ret (K e) Q) : Ret (Go.Rx.thro o K z) Q := by
  obtain ⟨a, h1, h2⟩ := h
  exact ⟨a, by unfold Go.Rx.thro; rw [hz, ho]; exact h1, h2⟩
end Go.Sx
namespace Go.Proofs.Ytdbogmmdogjhpaa
open Go Go.Sx
open Go.Rx (ixA)
namespace S
def tie (h : Hunt) (l : List Filing) (i k : Nat) : Tie := ⟨(ids l).getD i 0, (ids l).getD k 0, w h l i k⟩
def ties (h : Hunt) (l : List Filing) : List Nat → List Tie
  | i :: k :: r => tie h l i k :: ties h l (k :: r)
  | _ => []
theorem ties_snoc (h : Hunt) (l : List Filing) (j k : Nat) : ∀ xs : List Nat, ties h l (xs ++ [j] ++ [k]) = ties h l (xs ++ [j]) ++ [tie h l j k]
  | [] => rfl
  | [x] => rfl
  | x :: y :: r => by
    have := ties_snoc h l j k (y :: r)
    simp only [List.cons_append, ties] at this ⊢
    rw [this]
theorem ties_len (h : Hunt) (l : List Filing) : ∀ p : List Nat, (ties h l p).length = p.length - 1
  | [] => rfl
  | [_] => rfl
  | _ :: k :: r => by simp only [ties, List.length_cons, ties_len h l (k :: r)]; omega
abbrev RC (h : Hunt) (l : List Filing) (s : Int) (i k : Nat) : Prop := Rc l.length (w h l) s i k
/-- The strength of two filings. -/
def Wide (h : Hunt) (l : List Filing) (s : Int) (i k : Nat) : Prop := 1 ≤ s ∧ s ≤ 6000 ∧ RC h l s i k ∧ ¬ RC h l (s + 1) i k
/-- What is told of why two filings are tied. -/
def Why (h : Hunt) (l : List Filing) (a b : Int) (r : List Tie × Int) : Prop :=
  (check h l ≠ 0 ∧ r = ([], check h l)) ∨ (check h l = 0 ∧ (two l a b).2.2 ≠ 0 ∧ r = ([], (two l a b).2.2)) ∨
  (check h l = 0 ∧ ∃ i k : Nat, two l a b = ((i : Int), (k : Int), 0) ∧ i < l.length ∧ k < l.length ∧ i ≠ k ∧ ((¬ RC h l 1 i k ∧ r = ([], 6)) ∨ ∃ s p, Wide h l s i k ∧ Best l.length (w h l) s i k p ∧ r = (ties h l p, 0)))
theorem Wide.uniq {h : Hunt} {l : List Filing} {s t : Int} {i k : Nat} (h1 : Wide h l s i k) (h2 : Wide h l t i k) : s = t := by
  rcases Int.lt_trichotomy s t with h3 | h3 | h3
  · exact absurd (h2.2.2.1.mono (show s + 1 ≤ t by omega)) h1.2.2.2
  · exact h3
  · exact absurd (h1.2.2.1.mono (show t + 1 ≤ s by omega)) h2.2.2.2
theorem Why.uniq {h : Hunt} {l : List Filing} {a b : Int} {r r' : List Tie × Int} (h1 : Why h l a b r) (h2 : Why h l a b r') : r = r' := by
  rcases h1 with ⟨c, rfl⟩ | ⟨c, c2, rfl⟩ | ⟨c, i, k, c2, hi, hk, hne, h1⟩
  · rcases h2 with ⟨d, rfl⟩ | ⟨d, d2, rfl⟩ | ⟨d, _⟩
    · rfl
    · exact absurd d c
    · exact absurd d c
  · rcases h2 with ⟨d, rfl⟩ | ⟨d, d2, rfl⟩ | ⟨d, i, k, d2, _⟩
    · exact absurd c d
    · rfl
    · rw [d2] at c2; exact absurd rfl c2
  · rcases h2 with ⟨d, rfl⟩ | ⟨d, d2, rfl⟩ | ⟨d, i', k', d2, hi', hk', hne', h2⟩
    · exact absurd c d
    · rw [c2] at d2; exact absurd rfl d2
    · rw [c2] at d2
      simp only [Prod.mk.injEq] at d2
      obtain ⟨e1, e2, _⟩ := d2
      obtain rfl : i = i' := by omega
      obtain rfl : k = k' := by omega
      rcases h1 with ⟨h1, rfl⟩ | ⟨s, p, h1, h3, rfl⟩
      · rcases h2 with ⟨h2, rfl⟩ | ⟨s', p', h2, h4, rfl⟩
        · rfl
        · exact absurd (h2.2.2.1.mono h2.1) h1
      · rcases h2 with ⟨h2, rfl⟩ | ⟨s', p', h2, h4, rfl⟩
        · exact absurd (h1.2.2.1.mono h1.1) h2
        · have := h1.uniq h2
          subst this
          rw [h3.uniq hi h4]
theorem Pw.get {N : Nat} {W : Nat → Nat → Int} {s : Int} {i k m : Nat} {p : List Nat} (h : Pw N W s i m p k) : ∀ t ≤ m, ∃ j, p[t]? = some j ∧ Pw N W s i t (p.take (t + 1)) j ∧ Wk N W s j (m - t) k := fun t ht => by
  obtain ⟨j, h1, h2⟩ := h.split t ht
  refine ⟨j, ?_, h1, h2⟩
  have := h1.last
  rwa [List.getElem?_take, if_pos (by omega)] at this
/-- Neighbours on a shortest walk are two. -/
theorem Pw.ne {N : Nat} {W : Nat → Nat → Int} {s : Int} {i k m : Nat} {p : List Nat} (h : Pw N W s i m p k) (hd : IsD N W s i k m) {t a b : Nat} (ht : t + 1 ≤ m) (ha : p[t]? = some a) (hb : p[t + 1]? = some b) : a ≠ b := fun e => by
  subst e
  obtain ⟨j, h1, h2, _⟩ := h.get t (by omega)
  obtain ⟨j', h3, _, h4⟩ := h.get (t + 1) ht
  rw [ha] at h1; cases h1
  rw [hb] at h3; cases h3
  exact hd.2 (t + (m - (t + 1))) (by omega) (h2.wk.add h4)
end S
open S
section
variable {h : Hunt} {l : List Filing} (v : Vd h l)
include v
omit v in
theorem ids_at {i : Nat} {Q : Int → Prop} (hi : i < l.length) (q : Q ((ids l).getD i 0)) : Ret (ixo (ids l) (i : Int)) Q := by
  refine ixR (by simpa [ids] using hi) ?_
  have hl : i < (ids l).length := by simpa [ids] using hi
  have : (ids l).getD i 0 = (ids l)[i] := by simp [List.getD, hl]
  rwa [this] at q
omit v in
theorem id_at {i : Nat} (hi : i < l.length) : (ids l).getD i 0 = l[i].id := by simp [List.getD, ids, hi]
theorem r_ringWhy0 (a b : Int) : Ret (P.ring_Why h l a b) (Why h l a b) := by
  have hlen := v.len
  have hc := check_iff.2 v
  unfold P.ring_Why
  refine Ret.bindM (r_open0 v) ?_
  rintro _ rfl
  dsimp only
  refine Ret.condF rfl <| Ret.bind <| Ret.ok <| Ret.bindM (r_two (x := hk h l) (l := l) rfl (by omega) a b) ?_
  rintro _ rfl
  have h0 : ∀ e, (two l a b).2.2 = e → e ≠ 0 → Why h l a b ([], e) := fun e he hne => by subst he; exact .inr (.inl ⟨hc, hne, rfl⟩)
  rcases two_cases l a b with ⟨e, _⟩ | ⟨e, _⟩ | ⟨i, k, e, h1, h2, hi, hk', hne, _⟩
  · rw [e]; exact Ret.condT rfl (Ret.ok (h0 6 (by rw [e]) (by decide)))
  · rw [e]; exact Ret.condT rfl (Ret.ok (h0 2 (by rw [e]) (by decide)))
  rw [e]
  dsimp only
  refine Ret.condF rfl <| Ret.bind <| Ret.ok ?_
  have hmk : ∀ r, ((¬ RC h l 1 i k ∧ r = ([], 6)) ∨ ∃ s p, Wide h l s i k ∧ Best l.length (w h l) s i k p ∧ r = (ties h l p, 0)) → Why h l a b r := fun r hr => .inr (.inr ⟨hc, i, k, e, hi, hk', hne, hr⟩)
  by_cases hr : RC h l 1 i k
  · refine Ret.thro <| Ret.bind <| Ret.ok <| Ret.bindM ((r_widest v hi hk' hne).1 hr) ?_
    rintro s ⟨hs1, hs2, hs3, hs4⟩
    refine Ret.bind <| Ret.ok <| Ret.thro <| Ret.bind <| Ret.ok <| Ret.bindM (r_chain v hs1 hi hk' hs3) ?_
    rintro _ ⟨p, rfl, hb⟩
    have hb0 := hb
    obtain ⟨m, hd, hp, _⟩ := hb
    have hpl := hp.len
    have hml := hd.lt hi
    have hmem := hp.mem hi
    refine Ret.bind <| Ret.val (a := (zl p).drop 1) (by unfold cutLo; rw [if_pos ⟨by omega, by rw [zl_len]; omega⟩]; rfl) ?_
    have hdl : ((zl p).drop 1).length = m := by rw [List.length_drop, zl_len]; omega
    refine Ret.bindM (Q' := fun r => r = ties h l p) (Ret.upto m (fun n (t : Int × List Tie) => t = ((n : Int), ties h l (p.take (n + 1)))) ?_ ?_ ?_) fun r hr => Ret.ok (hmk _ (.inr ⟨s, p, ⟨hs1, hs2, hs3, hs4⟩, hb0, by rw [hr]⟩))
    · obtain ⟨j, h3, h4, _⟩ := hp.get 0 (Nat.zero_le _)
      cases hpp : p with
      | nil => rw [hpp] at hpl; cases hpl
      | cons x r => simp [ties]
    · rintro n hn _ rfl
      dsimp only
      obtain ⟨x, hx, _, _⟩ := hp.get n (by omega)
      obtain ⟨y, hy, _, _⟩ := hp.get (n + 1) (by omega)
      have hxN := hmem x (List.mem_of_getElem? hx)
      have hyN := hmem y (List.mem_of_getElem? hy)
      have hxy := hp.ne hd (t := n) (by omega) hx hy
      have htl := ties_len h l (p.take (n + 1))
      rw [List.length_take] at htl
      have e1 : p.take (n + 1) = p.take n ++ [x] := by rw [List.take_add_one, hx]; rfl
      have e2 : p.take (n + 1 + 1) = p.take (n + 1) ++ [y] := by rw [List.take_add_one, hy]; rfl
      refine Ret.condT (by rw [hdl]; exact lt_cast hn) <| Ret.bind <| Ret.ixo (y := (y : Int)) (by rw [List.getElem?_drop, Nat.add_comm]; exact zl_get hy) <| Ret.bind <| Ret.ok <| Ret.bind <| Ret.ixo (zl_get hx) <| Ret.bind <| ids_at hxN <| Ret.bind <| Ret.ok <| Ret.bind <| ids_at hyN <| Ret.bind <| Ret.ixo (zl_get hx) <| Ret.bind <| Ret.ok <| Ret.bind <| r_ixA (by omega) <| Ret.bind <| r_ixA (by omega) <| Ret.bind <| r_tab (by omega) (by omega) <| Ret.bind <| Ret.appo (by rw [List.length_singleton]; omega) (by rw [List.length_singleton]; omega) <| Ret.bind <| Ret.chk (by omega) <| Ret.next ?_
      rw [e2, e1, ties_snoc, ← e1]
      unfold tie wm
      rw [if_neg hxy]; rfl
    · rintro _ rfl
      dsimp only
      rw [List.take_of_length_le (by omega)]
      exact Ret.condF (by rw [hdl]; exact not_lt_cast) (Ret.done rfl)
  · obtain ⟨h3, h4⟩ := (r_widest v hi hk' hne).2 hr
    refine Ret.threw ?_ h4 (Ret.ok (hmk _ (.inl ⟨hr, rfl⟩)))
    rw [bindS, h3]; rfl
end
theorem r_ringWhy (h : Hunt) {l : List Filing} (hl : l.length ≤ 30) (hp : ∀ f ∈ l, f.parts.length ≤ 20) (a b : Int) : Ret (P.ring_Why h l a b) (Why h l a b) := by
  by_cases hc : check h l = 0
  · exact r_ringWhy0 (check_iff.1 hc) a b
  · unfold P.ring_Why
    refine Ret.bindM (r_open h hl hp) ?_
    rw [if_neg hc]
    rintro _ rfl
    exact Ret.condT (by simp [hc]) (Ret.ok (.inl ⟨hc, rfl⟩))
/-! The reference. -/
namespace S
def tb (N : Nat) (f : Nat → Int) : List Int := (List.range N).map f
def upd (f : Nat → Int) (k : Nat) (x : Int) : Nat → Int := fun a => if a = k then x else f a
theorem tb_len (N : Nat) (f : Nat → Int) : (tb N f).length = N := by simp [tb]
theorem tb_get {N : Nat} {f : Nat → Int} {k : Nat} (hk : k < N) : (tb N f)[k]? = some (f k) := by
  unfold tb
  rw [List.getElem?_map, List.getElem?_range hk]; rfl
theorem tb_set {N : Nat} {f : Nat → Int} {k : Nat} {x : Int} (hk : k < N) : (tb N f).set k x = tb N (upd f k x) := by
  apply List.ext_getElem?
  intro t
  rw [List.getElem?_set]
  rcases Nat.lt_or_ge t N with ht | ht
  · rw [tb_get ht, tb_get ht, tb_len]
    unfold upd
    by_cases e : k = t
    · rw [if_pos e, if_pos hk, if_pos e.symm]
    · rw [if_neg e, if_neg fun e2 => e e2.symm]
  · rw [List.getElem?_eq_none (by rw [tb_len]; omega), List.getElem?_eq_none (by rw [tb_len]; omega), if_neg (by omega)]
theorem tb_ext {N : Nat} {f g : Nat → Int} (h : ∀ a < N, f a = g a) : tb N f = tb N g := List.map_congr_left fun t ht => h t (List.mem_range.1 ht)
end S
theorem r_tb {N : Nat} {f : Nat → Int} {k : Nat} {Q : Int → Prop} (hk : k < N) (q : Q (f k)) : Ret (ixo (tb N f) (k : Int)) Q := Ret.ixo (tb_get hk) q
theorem r_tbS {N : Nat} {f : Nat → Int} {k : Nat} {x : Int} {Q : List Int → Prop} (hk : k < N) (q : Q (tb N (upd f k x))) : Ret (seto (tb N f) (k : Int) x) Q := Ret.seto (by rw [tb_len]; exact hk) (by rw [tb_set hk]; exact q)
section
variable {h : Hunt} {l : List Filing} (v : Vd h l)
include v
theorem r_steps {i : Nat} (hi : i < l.length) (s : Int) : Ret (P.ref08_steps h l i s) (· = tb l.length (dI l.length (w h l) s i)) := by
  have hlen := v.len
  unfold P.ref08_steps
  refine Ret.bind <| Ret.mko (by omega) (by omega) ?_
  have e0 : List.replicate l.length (0 : Int) = tb l.length (fun _ => 0) := by unfold tb; rw [List.map_const']; simp
  rw [e0]
  refine Ret.bindM (Q' := fun r => r = tb l.length (fun _ => -1)) (Ret.upto l.length (fun n (t : Int × List Int) => t = ((n : Int), tb l.length (fun a => if a < n then -1 else 0))) (by simp) ?_ ?_) ?_
  · rintro n hn _ rfl
    dsimp only
    refine Ret.condT (by rw [tb_len]; exact lt_cast hn) <| Ret.bind <| r_tb hn <| Ret.bind <| r_tbS hn <| Ret.bind <| Ret.chk (by omega) <| Ret.next ?_
    show ((n : Int) + 1, _) = (((n + 1 : Nat) : Int), _)
    congr 1
    refine tb_ext fun a ha => ?_
    unfold upd
    dsimp only
    by_cases e : a = n
    · rw [if_pos e, if_pos (by omega)]
    · rw [if_neg e]
      by_cases e2 : a < n
      · rw [if_pos e2, if_pos (by omega)]
      · rw [if_neg e2, if_neg (by omega)]
  · rintro _ rfl
    dsimp only
    refine Ret.condF (by rw [tb_len]; exact not_lt_cast) <| Ret.done <| tb_ext fun a ha => by rw [if_pos ha]
  rintro _ rfl
  refine Ret.bind <| r_tb hi <| Ret.bind <| r_tbS hi ?_
  generalize hD : dI l.length (w h l) s i = D
  have d0 : D i = 0 := by rw [← hD]; exact dI_self
  have dl : ∀ k, D k < l.length := fun k => by rw [← hD]; exact dI_lt hi
  have dg : ∀ k, -1 ≤ D k := fun k => by rw [← hD]; exact dI_ge
  have dz : ∀ k, D k = 0 → k = i := fun k hk => by
    rcases dI_cases l.length (w h l) s i k with ⟨m, h1, h2⟩ | ⟨_, h2⟩
    · rw [← hD, h2] at hk
      have : m = 0 := by omega
      subst this; exact h1.1
    · rw [← hD, h2] at hk; cases hk
  have ds : ∀ (n j k : Nat), D j = n → j < l.length → k < l.length → s ≤ w h l j k → 0 ≤ D k ∧ D k ≤ n + 1 := fun n j k h1 h2 h3 h4 => by rw [← hD] at h1 ⊢; exact dI_step h1 ⟨h2, h3, h4⟩
  have dp : ∀ (n k : Nat), D k = (n : Int) + 1 → ∃ j, j < l.length ∧ D j = n ∧ s ≤ w h l j k := fun n k h1 => by
    rw [← hD] at h1
    obtain ⟨j, h2, h3⟩ := dI_pred h1
    exact ⟨j, h3.1, by rw [← hD]; exact h2, h3.2.2⟩
  refine Ret.bindM (Q' := fun r => r = tb l.length D) (Ret.upto l.length (fun n (t : Int × List Int) => t = ((n : Int), tb l.length (fun a => if D a ≤ n then D a else -1))) ?_ ?_ ?_) fun r hr => Ret.ok hr
  · show ((0 : Int), _) = (((0 : Nat) : Int), _)
    congr 1
    refine tb_ext fun a ha => ?_
    unfold upd
    dsimp only
    by_cases e : a = i
    · rw [if_pos e, e, d0]; rfl
    · rw [if_neg e]
      have h1 := mt (dz a) e
      have h2 := dg a
      by_cases e2 : D a ≤ ((0 : Nat) : Int)
      · rw [if_pos e2]; omega
      · rw [if_neg e2]
  · rintro n hn _ rfl
    dsimp only
    refine Ret.condT (lt_cast hn) ?_
    refine Ret.bindM (Q' := fun r => r = tb l.length (fun a => if D a ≤ ((n + 1 : Nat) : Int) then D a else -1)) (Ret.upto l.length (fun j (t : Int × List Int) => t = ((j : Int), tb l.length (fun a => if D a ≤ n then D a else if ∃ x < j, D x = n ∧ s ≤ w h l x a then (n : Int) + 1 else -1))) ?_ ?_ ?_) ?_
    · show ((0 : Int), _) = (((0 : Nat) : Int), _)
      congr 1
    · rintro j hj _ rfl
      dsimp only
      refine Ret.condT (lt_cast hj) ?_
      refine Ret.bindM (Q' := fun r => r = tb l.length (fun a => if D a ≤ n then D a else if ∃ x < j + 1, D x = n ∧ s ≤ w h l x a then (n : Int) + 1 else -1)) (Ret.bind <| r_tb hj <| Ret.cond (fun hc => Ret.ok ?_) (fun hc => ?_)) ?_
      · have hne : D j ≠ n := fun e => by
          rw [if_pos (by omega)] at hc
          simp [e] at hc
        refine tb_ext fun a ha => ?_
        by_cases e : D a ≤ n
        · rw [if_pos e, if_pos e]
        · rw [if_neg e, if_neg e]
          by_cases e2 : ∃ x < j, D x = n ∧ s ≤ w h l x a
          · obtain ⟨x, h1, h2⟩ := e2
            rw [if_pos ⟨x, h1, h2⟩, if_pos ⟨x, by omega, h2⟩]
          · rw [if_neg e2, if_neg]
            rintro ⟨x, h1, h2, h3⟩
            by_cases e3 : x = j
            · subst e3; exact hne h2
            · exact e2 ⟨x, by omega, h2, h3⟩
      · have hjn : D j = n := by
          have hc : ¬ ¬ ((if D j ≤ n then D j else if ∃ x < j, D x = n ∧ s ≤ w h l x j then (n : Int) + 1 else -1) = n) := by simpa using hc
          have hc := Classical.not_not.1 hc
          by_cases e : D j ≤ n
          · rw [if_pos e] at hc; exact hc
          · rw [if_neg e] at hc
            split at hc <;> omega
        refine Ret.bindM (Q' := fun r => r = tb l.length (fun a => if D a ≤ n then D a else if ∃ x < j + 1, D x = n ∧ s ≤ w h l x a then (n : Int) + 1 else -1)) (Ret.upto l.length (fun k (t : Int × List Int) => t = ((k : Int), tb l.length (fun a => if D a ≤ n then D a else if (∃ x < j, D x = n ∧ s ≤ w h l x a) ∨ (a < k ∧ s ≤ w h l j a) then (n : Int) + 1 else -1))) ?_ ?_ ?_) fun r hr => Ret.ok hr
        · show ((0 : Int), _) = (((0 : Nat) : Int), _)
          congr 1
          refine tb_ext fun a ha => ?_
          simp
        · rintro k hk' _ rfl
          dsimp only
          refine Ret.condT (lt_cast hk') ?_
          refine Ret.bindM (Q' := fun b => b = decide (¬ D k ≤ n ∧ ¬ (∃ x < j, D x = n ∧ s ≤ w h l x k) ∧ s ≤ w h l j k)) (Ret.bind <| r_tb hk' <| Ret.cond (fun hc => ?_) (fun hc => Ret.ok ?_)) ?_
          · refine Ret.bindM (r_weight v hj hk') ?_
            rintro _ rfl
            refine Ret.ok ?_
            rw [decide_eq_decide]
            have hc := of_decide_eq_true hc
            constructor
            · intro hs
              refine ⟨fun h1 => ?_, fun h1 => ?_, hs⟩
              · rw [if_pos h1] at hc
                have := ds n j k hjn hj hk' hs; omega
              · have hx : ¬ D k ≤ n := fun h2 => by
                  rw [if_pos h2] at hc
                  have := ds n j k hjn hj hk' hs; omega
                rw [if_neg hx, if_pos (.inl h1)] at hc
                omega
            · exact fun h => h.2.2
          · have hc := of_decide_eq_false hc
            refine (decide_eq_false ?_).symm
            rintro ⟨h1, h2, h3⟩
            rw [if_neg h1, if_neg] at hc
            · omega
            · rintro (h4 | ⟨h4, _⟩)
              · exact h2 h4
              · omega
          rintro _ rfl
          refine Ret.bindM (Q' := fun r => r = tb l.length (fun a => if D a ≤ n then D a else if (∃ x < j, D x = n ∧ s ≤ w h l x a) ∨ (a < k + 1 ∧ s ≤ w h l j a) then (n : Int) + 1 else -1)) (Ret.cond (fun hb => ?_) (fun hb => Ret.ok ?_)) ?_
          · obtain ⟨h1, h2, h3⟩ := of_decide_eq_true hb
            refine Ret.bind <| Ret.chk (by omega) <| Ret.bind <| r_tb hk' <| Ret.bind <| r_tbS hk' <| Ret.ok <| tb_ext fun a ha => ?_
            unfold upd
            dsimp only
            by_cases e : a = k
            · subst e
              rw [if_pos rfl, if_neg h1, if_pos (.inr ⟨by omega, h3⟩)]
            · rw [if_neg e]
              by_cases e2 : D a ≤ n
              · rw [if_pos e2, if_pos e2]
              · rw [if_neg e2, if_neg e2]
                by_cases e3 : (∃ x < j, D x = n ∧ s ≤ w h l x a) ∨ (a < k ∧ s ≤ w h l j a)
                · rw [if_pos e3, if_pos (e3.imp id fun h => ⟨by omega, h.2⟩)]
                · rw [if_neg e3, if_neg]
                  rintro (h4 | ⟨h4, h5⟩)
                  · exact e3 (.inl h4)
                  · exact e3 (.inr ⟨by omega, h5⟩)
          · have hb := of_decide_eq_false hb
            refine tb_ext fun a ha => ?_
            by_cases e2 : D a ≤ n
            · rw [if_pos e2, if_pos e2]
            · rw [if_neg e2, if_neg e2]
              by_cases e3 : (∃ x < j, D x = n ∧ s ≤ w h l x a) ∨ (a < k ∧ s ≤ w h l j a)
              · rw [if_pos e3, if_pos (e3.imp id fun h => ⟨by omega, h.2⟩)]
              · rw [if_neg e3, if_neg]
                rintro (h4 | ⟨h4, h5⟩)
                · exact e3 (.inl h4)
                · by_cases e4 : a = k
                  · subst e4
                    exact hb ⟨e2, fun h6 => e3 (.inl h6), h5⟩
                  · exact e3 (.inr ⟨by omega, h5⟩)
          · rintro _ rfl
            exact Ret.bind <| Ret.chk (by omega) <| Ret.next rfl
        · rintro _ rfl
          dsimp only
          refine Ret.condF not_lt_cast <| Ret.done <| tb_ext fun a ha => ?_
          by_cases e2 : D a ≤ n
          · rw [if_pos e2, if_pos e2]
          · rw [if_neg e2, if_neg e2]
            by_cases e3 : (∃ x < j, D x = n ∧ s ≤ w h l x a) ∨ (a < l.length ∧ s ≤ w h l j a)
            · rw [if_pos e3, if_pos]
              rcases e3 with ⟨x, h1, h2⟩ | ⟨_, h2⟩
              · exact ⟨x, by omega, h2⟩
              · exact ⟨j, by omega, hjn, h2⟩
            · rw [if_neg e3, if_neg]
              rintro ⟨x, h1, h2, h3⟩
              by_cases e4 : x = j
              · subst e4; exact e3 (.inr ⟨ha, h3⟩)
              · exact e3 (.inl ⟨x, by omega, h2, h3⟩)
      · rintro _ rfl
        exact Ret.bind <| Ret.chk (by omega) <| Ret.next rfl
    · rintro _ rfl
      dsimp only
      refine Ret.condF not_lt_cast <| Ret.done <| tb_ext fun a ha => ?_
      by_cases e : D a ≤ n
      · rw [if_pos e, if_pos (by omega)]
      · rw [if_neg e]
        by_cases e2 : D a = (n : Int) + 1
        · obtain ⟨x, h1, h2, h3⟩ := dp n a e2
          rw [if_pos ⟨x, h1, h2, h3⟩, if_pos (by omega), e2]
        · rw [if_neg, if_neg (by omega)]
          rintro ⟨x, h1, h2, h3⟩
          have := ds n x a h2 h1 ha h3
          omega
    · rintro _ rfl
      exact Ret.bind <| Ret.chk (by omega) <| Ret.next rfl
  · rintro _ rfl
    dsimp only
    refine Ret.condF not_lt_cast <| Ret.done <| tb_ext fun a ha => ?_
    have := dl a
    rw [if_pos (by omega)]
end
end Go.Proofs.Ytdbogmmdogjhpaa
set_option maxRecDepth 20000
set_option maxHeartbeats 1000000
set_option linter.unusedVariables false
set_option linter.unusedSimpArgs false
namespace Go.Proofs.Ytdbogmmdogjhpaa
open Go Go.Sx
open Go.Rx (ixA)
open S
theorem S.dI_zero {N : Nat} {W : Nat → Nat → Int} {s : Int} {i k : Nat} (h : dI N W s i k = 0) : k = i := by
  rcases dI_cases N W s i k with ⟨m, h1, h2⟩ | ⟨_, h2⟩
  · have : m = 0 := by omega
    subst this; exact h1.1
  · omega
section
variable {h : Hunt} {l : List Filing} (v : Vd h l)
include v
/-- Strengths at which two filings are tied end. -/
theorem top_ex {t : Int} (ht : t ≤ 6001) {i k : Nat} (hne : i ≠ k) (hr : RC h l t i k) : ∃ s, t ≤ s ∧ RC h l s i k ∧ ¬ RC h l (s + 1) i k := by
  have no : ∀ s : Int, 6000 < s → ¬ RC h l s i k := fun s hs hr => hne (Rc.ind (p := fun x => x = i) rfl (fun a b _ he => absurd (Int.le_trans he.2.2 (v.win_ a b).2) (by omega)) hr).symm
  have key : ∀ (n : Nat) (t : Int), t + n = 6001 → RC h l t i k → ∃ s, t ≤ s ∧ RC h l s i k ∧ ¬ RC h l (s + 1) i k := by
    intro n
    induction n with
    | zero => intro t ht hr; exact absurd hr (no t (by omega))
    | succ n ih =>
      intro t ht hr
      by_cases h1 : RC h l (t + 1) i k
      · obtain ⟨s, h2, h3⟩ := ih (t + 1) (by omega) h1
        exact ⟨s, by omega, h3⟩
      · exact ⟨t, Int.le_refl _, hr, h1⟩
  exact key (6001 - t).toNat t (by omega) hr
theorem r_next {s : Int} {to c : Nat} (hto : to < l.length) (hc : c < l.length) {n : Nat} (hn : dI l.length (w h l) s to c = (n : Int) + 1) {Q : Int → Prop} (q : ∀ c' : Nat, c' < l.length → dI l.length (w h l) s to c' = n → s ≤ w h l c c' → (∀ x < c', x < l.length → ¬ (dI l.length (w h l) s to x = n ∧ s ≤ w h l c x)) → Q c') :
    Ret (loopM (S := (Int × Int)) (R := (Int)) (fun (x51, x52) => cond (decide (x52 < (l.length : Int))) (Option.bind (α := (Bool)) (cond (decide (x51 < 0)) (Option.bind (ixo (tb l.length (dI l.length (w h l) s to)) x52) fun y53 => Option.bind (ixo (tb l.length (dI l.length (w h l) s to)) (c : Int)) fun y54 => Option.bind (chk .i64 (y54 - 1)) fun n55 => cond (decide (y53 = n55)) (Option.bind (P.ref08_weight h l (c : Int) x52) fun r56 => some (decide (s ≤ r56))) (some false)) (some false)) ((fun x57 => Option.bind (α := (Int)) (cond (x57) (some x52) (some x51)) ((fun x58 => Option.bind (chk .i64 (x52 + 1)) fun n59 => some (Sum.inl (x58, n59))))))) (some (Sum.inr x51))) (((-1) : Int), (0 : Int))) Q := by
  have hlen := v.len
  have hnl : n < l.length := by have := dI_lt (N := l.length) (W := w h l) (s := s) (k := c) hto; omega
  refine Ret.upto l.length (fun k (t : Int × Int) => t.2 = (k : Int) ∧ ((t.1 = -1 ∧ ∀ x < k, x < l.length → ¬ (dI l.length (w h l) s to x = n ∧ s ≤ w h l c x)) ∨ ∃ c' : Nat, t.1 = (c' : Int) ∧ c' < l.length ∧ dI l.length (w h l) s to c' = n ∧ s ≤ w h l c c' ∧ ∀ x < c', x < l.length → ¬ (dI l.length (w h l) s to x = n ∧ s ≤ w h l c x))) ⟨rfl, .inl ⟨rfl, fun x hx => by omega⟩⟩ ?_ ?_
  · rintro k hk ⟨x, _⟩ ⟨rfl, hI⟩
    dsimp only at hI ⊢
    refine Ret.condT (lt_cast hk) ?_
    refine Ret.bindM (Q' := fun b => b = decide (x < 0 ∧ dI l.length (w h l) s to k = n ∧ s ≤ w h l c k)) (Ret.cond (fun h0 => ?_) (fun h0 => Ret.ok ?_)) ?_
    · have h0 := of_decide_eq_true h0
      refine Ret.bind <| r_tb hk <| Ret.bind <| r_tb hc <| Ret.bind <| Ret.chk (by omega) ?_
      rw [hn]
      refine Ret.cond (fun h1 => ?_) (fun h1 => Ret.ok ?_)
      · have h1 := of_decide_eq_true h1
        refine Ret.bindM (r_weight v hc hk) ?_
        rintro _ rfl
        refine Ret.ok ?_
        rw [decide_eq_decide]
        exact ⟨fun h => ⟨h0, by omega, h⟩, fun h => h.2.2⟩
      · have h1 := of_decide_eq_false h1
        exact (decide_eq_false fun h => h1 (by omega)).symm
    · have h0 := of_decide_eq_false h0
      exact (decide_eq_false fun h => h0 h.1).symm
    rintro _ rfl
    refine Ret.bindM (Q' := fun r => r = if x < 0 ∧ dI l.length (w h l) s to k = n ∧ s ≤ w h l c k then (k : Int) else x) (Ret.cond (fun hb => Ret.ok ?_) (fun hb => Ret.ok ?_)) ?_
    · rw [if_pos (of_decide_eq_true hb)]
    · rw [if_neg (of_decide_eq_false hb)]
    rintro _ rfl
    refine Ret.bind <| Ret.chk (by omega) <| Ret.next ⟨rfl, ?_⟩
    dsimp only
    rcases hI with ⟨rfl, hI⟩ | ⟨c', rfl, h1, h2, h3, h4⟩
    · by_cases hb : dI l.length (w h l) s to k = n ∧ s ≤ w h l c k
      · rw [if_pos ⟨by decide, hb⟩]
        exact .inr ⟨k, rfl, hk, hb.1, hb.2, hI⟩
      · rw [if_neg fun h => hb h.2]
        refine .inl ⟨rfl, fun x hx hxl => ?_⟩
        by_cases e : x = k
        · subst e; exact hb
        · exact hI x (by omega) hxl
    · rw [if_neg (by omega)]
      exact .inr ⟨c', rfl, h1, h2, h3, h4⟩
  · rintro ⟨x, _⟩ ⟨rfl, hI⟩
    dsimp only at hI ⊢
    refine Ret.condF not_lt_cast (Ret.done ?_)
    rcases hI with ⟨rfl, hI⟩ | ⟨c', rfl, h1, h2, h3, h4⟩
    · exfalso
      obtain ⟨j, h1, h2⟩ := dI_pred hn
      exact hI j h2.1 h2.1 ⟨h1, by rw [v.wcomm]; exact h2.2.2⟩
    · exact q c' h1 h2 h3 h4
open Classical in
theorem r_refWhy0 (a b : Int) : Ret (P.ref08_Why h l a b) (Why h l a b) := by
  have hlen := v.len
  have hc := check_iff.2 v
  unfold P.ref08_Why
  refine Ret.bindM (r_refWeight h (l := l) (by omega) (fun f hf => by have := v.prl f hf; omega) a b) ?_
  rintro _ rfl
  rw [Weight_two hc]
  have h0 : ∀ e, (two l a b).2.2 = e → e ≠ 0 → Why h l a b ([], e) := fun e he hne => by subst he; exact .inr (.inl ⟨hc, hne, rfl⟩)
  rcases two_cases l a b with ⟨e, _⟩ | ⟨e, _⟩ | ⟨i, k, e, h1, h2, hi, hk', hne, _⟩
  · rw [e]; exact Ret.condT rfl (Ret.ok (h0 6 (by rw [e]) (by decide)))
  · rw [e]; exact Ret.condT rfl (Ret.ok (h0 2 (by rw [e]) (by decide)))
  rw [e, if_pos rfl]
  dsimp only
  have hmk : ∀ r, ((¬ RC h l 1 i k ∧ r = ([], 6)) ∨ ∃ s p, Wide h l s i k ∧ Best l.length (w h l) s i k p ∧ r = (ties h l p, 0)) → Why h l a b r := fun r hr => .inr (.inr ⟨hc, i, k, e, hi, hk', hne, hr⟩)
  refine Ret.condF rfl <| Ret.bindM (r_At (by omega)) ?_
  rintro _ rfl
  refine Ret.bindM (r_At (by omega)) ?_
  rintro _ rfl
  rw [show idx (l.map (·.id)) a = i from h1, show idx (l.map (·.id)) b = k from h2]
  have hsym : ∀ s, dI l.length (w h l) s k i < 0 ↔ ¬ RC h l s i k := fun s => by rw [dI_neg]; exact ⟨fun h1 h2 => h1 (h2.sym v.wcomm), fun h1 h2 => h1 (Rc.sym v.wcomm h2)⟩
  refine Ret.bindM (r_steps v hk' 1) ?_
  rintro _ rfl
  refine Ret.bind <| r_tb hi <| Ret.cond (fun hneg => Ret.ok (hmk _ (.inl ⟨(hsym 1).1 (of_decide_eq_true hneg), rfl⟩))) (fun hneg => ?_)
  have hr1 : RC h l 1 i k := Classical.byContradiction fun hn => of_decide_eq_false hneg ((hsym 1).2 hn)
  -- the greatest strength
  refine Ret.bindM (Q' := fun s => Wide h l s i k) (Ret.upto l.length (fun n (t : Int × Int) => t.2 = (n : Int) ∧ 1 ≤ t.1 ∧ RC h l t.1 i k ∧ ∀ x y, y < x → x < n → RC h l (w h l x y) i k → w h l x y ≤ t.1) ⟨rfl, by decide, hr1, fun x y _ hx => by omega⟩ ?_ ?_) ?_
  · rintro n hn ⟨s0, _⟩ ⟨rfl, hs0, hs1, hs2⟩
    dsimp only at hs0 hs1 hs2 ⊢
    refine Ret.condT (lt_cast hn) ?_
    refine Ret.bindM (Q' := fun r => 1 ≤ r ∧ RC h l r i k ∧ ∀ x y, y < x → x < n + 1 → RC h l (w h l x y) i k → w h l x y ≤ r) (Ret.upto n (fun m (t : Int × Int) => t.2 = (m : Int) ∧ 1 ≤ t.1 ∧ RC h l t.1 i k ∧ ∀ x y, y < x → x < n ∨ (x = n ∧ y < m) → RC h l (w h l x y) i k → w h l x y ≤ t.1) ⟨rfl, hs0, hs1, fun x y hxy hx => hs2 x y hxy (by omega)⟩ ?_ ?_) ?_
    · rintro m hm ⟨s, _⟩ ⟨rfl, hs0, hs1, hs2⟩
      dsimp only at hs0 hs1 hs2 ⊢
      refine Ret.condT (lt_cast hm) <| Ret.bindM (r_weight v hn (by omega)) ?_
      rintro _ rfl
      refine Ret.bindM (Q' := fun b => b = decide (s < w h l n m ∧ RC h l (w h l n m) i k)) (Ret.cond (fun hlt => ?_) (fun hlt => Ret.ok ?_)) ?_
      · refine Ret.bindM (r_steps v hk' _) ?_
        rintro _ rfl
        refine Ret.bind <| r_tb hi <| Ret.ok ?_
        rw [decide_eq_decide]
        have := hsym (w h l n m)
        constructor
        · intro h3
          exact ⟨of_decide_eq_true hlt, Classical.byContradiction fun h4 => by have := this.2 h4; omega⟩
        · intro h3
          rcases Int.lt_or_le (dI l.length (w h l) (w h l n m) k i) 0 with h4 | h4
          · exact absurd h3.2 (this.1 h4)
          · exact h4
      · exact (decide_eq_false fun h => of_decide_eq_false hlt h.1).symm
      rintro _ rfl
      refine Ret.bindM (Q' := fun r => r = if s < w h l n m ∧ RC h l (w h l n m) i k then w h l n m else s) (Ret.cond (fun hb => Ret.ok ?_) (fun hb => Ret.ok ?_)) ?_
      · rw [if_pos (of_decide_eq_true hb)]
      · rw [if_neg (of_decide_eq_false hb)]
      rintro _ rfl
      refine Ret.bind <| Ret.chk (by omega) <| Ret.next ⟨rfl, ?_⟩
      dsimp only
      by_cases hb : s < w h l n m ∧ RC h l (w h l n m) i k
      · rw [if_pos hb]
        refine ⟨by omega, hb.2, fun x y hxy hx hr => ?_⟩
        by_cases e2 : x = n ∧ y = m
        · rw [e2.1, e2.2]; exact Int.le_refl _
        · have := hs2 x y hxy (by omega) hr
          omega
      · rw [if_neg hb]
        refine ⟨hs0, hs1, fun x y hxy hx hr => ?_⟩
        by_cases e2 : x = n ∧ y = m
        · obtain ⟨rfl, rfl⟩ := e2
          rcases Int.lt_or_le s (w h l x y) with h3 | h3
          · exact absurd ⟨h3, hr⟩ hb
          · exact h3
        · exact hs2 x y hxy (by omega) hr
    · rintro ⟨s, _⟩ ⟨rfl, hs0, hs1, hs2⟩
      dsimp only at hs0 hs1 hs2 ⊢
      exact Ret.condF not_lt_cast <| Ret.done ⟨hs0, hs1, fun x y hxy hx => hs2 x y hxy (by omega)⟩
    · rintro s ⟨hs0, hs1, hs2⟩
      exact Ret.bind <| Ret.chk (by omega) <| Ret.next ⟨rfl, hs0, hs1, hs2⟩
  · rintro ⟨s, _⟩ ⟨rfl, hs0, hs1, hs2⟩
    dsimp only at hs0 hs1 hs2 ⊢
    refine Ret.condF not_lt_cast <| Ret.done ?_
    have hle : ∀ t, RC h l t i k → s ≤ t → t = s ∧ t ≤ 6000 := fun t hrt hst => by
      have ht6 : t ≤ 6000 := by
        rcases Int.lt_or_le 6000 t with h3 | h3
        · exact absurd (Rc.ind (p := fun x => x = i) rfl (fun a b _ he => absurd (Int.le_trans he.2.2 (v.win_ a b).2) (by omega)) hrt).symm hne
        · exact h3
      obtain ⟨u, h3, h4, h5⟩ := top_ex v (by omega) hne hrt
      obtain ⟨x, y, hxy, hx, hy, e2⟩ := Rc.edge h4 h5
      have : u ≤ s := by
        rcases Nat.lt_or_gt_of_ne hxy with h6 | h6
        · have := hs2 y x h6 hy (by rw [v.wcomm, e2]; exact h4)
          rw [v.wcomm, e2] at this; exact this
        · have := hs2 x y h6 hx (by rw [e2]; exact h4)
          rw [e2] at this; exact this
      exact ⟨by omega, ht6⟩
    exact ⟨hs0, (hle s hs1 (Int.le_refl _)).2, hs1, fun h3 => by have := (hle _ h3 (by omega)).1; omega⟩
  intro s hw
  obtain ⟨hs1, hs2, hs3, hs4⟩ := hw
  refine Ret.bindM (r_steps v hk' s) ?_
  rintro _ rfl
  obtain ⟨m0, hD⟩ := IsD.of hs3
  have hDN := hD.lt hi
  have hDk : dI l.length (w h l) s k i = (m0 : Int) := (hD.sym v.wcomm).dI
  refine Ret.bindM (Q' := fun r => ∃ p, Best l.length (w h l) s i k p ∧ r = ties h l p) (Ret.upto m0 (fun t (st : Int × List Tie) => ∃ (c : Nat) (p : List Nat), st = ((c : Int), ties h l p) ∧ Pw l.length (w h l) s i t p c ∧ dI l.length (w h l) s k c = (m0 : Int) - t ∧ ∀ q, Pw l.length (w h l) s i m0 q k → val l.length p ≤ val l.length (q.take (t + 1))) ⟨i, [i], rfl, .nil, by omega, fun q hq => ?_⟩ ?_ ?_) ?_
  · obtain ⟨j, h3, _⟩ := hq.split 0 (Nat.zero_le _)
    generalize q.take (0 + 1) = q0 at h3
    cases h3
    exact Nat.le_refl _
  · rintro t ht _ ⟨c, p, rfl, hp, hdc, hq⟩
    dsimp only
    have hcl := hp.wk.lt hi
    have hck : c ≠ k := fun e2 => by rw [e2, dI_self] at hdc; omega
    have hpl := hp.len
    have htl := ties_len h l p
    obtain ⟨n, hn⟩ : ∃ n : Nat, (m0 : Int) - t = (n : Int) + 1 := ⟨m0 - t - 1, by omega⟩
    rw [hn] at hdc
    refine Ret.condT (by simp; omega) ?_
    refine Ret.bind (r_next v hk' hcl hdc fun c' hc' hd' hw' hmin => ?_)
    refine Ret.bind <| ixR hcl <| Ret.bind <| ixR hc' <| Ret.bindM (r_weight v hcl hc') ?_
    rintro _ rfl
    refine Ret.bind <| Ret.appo (by rw [List.length_singleton]; omega) (by rw [List.length_singleton]; omega) <| Ret.next ⟨c', p ++ [c'], ?_, .cons hp ⟨hcl, hc', hw'⟩, by omega, fun q hq' => ?_⟩
    · congr 1
      have e3 : ∃ p0, p = p0 ++ [c] := by
        cases hp with
        | nil => exact ⟨[], rfl⟩
        | cons _ _ => exact ⟨_, rfl⟩
      obtain ⟨p0, rfl⟩ := e3
      rw [ties_snoc]
      unfold tie
      rw [id_at hcl, id_at hc']
    · obtain ⟨x, hx, hx1, hx2⟩ := hq'.get t (by omega)
      obtain ⟨y, hy, hy1, hy2⟩ := hq'.get (t + 1) (by omega)
      have e4 : q.take (t + 1 + 1) = q.take (t + 1) ++ [y] := by rw [List.take_add_one, hy]; rfl
      have h5 := hq q hq'
      rw [e4]
      rcases Nat.lt_or_ge (val l.length p) (val l.length (q.take (t + 1))) with h6 | h6
      · exact Nat.le_of_lt (val_lt hc' h6)
      · have e5 := val_inj hi hp hx1 (Nat.le_antisymm h5 h6)
        rw [← e5] at hx1 ⊢
        have hxc : x = c := by
          have a1 := hx1.last; have a2 := hp.last
          rw [a1] at a2; exact Option.some.inj a2
        subst hxc
        rw [e4, ← e5] at hy1
        have hed : Ed l.length (w h l) s x y := by
          generalize hpp : p ++ [y] = pp at hy1
          cases hy1 with
          | @cons _ p' j _ g1 g2 =>
            have hl2 : p' = p := by
              have := (List.append_inj' hpp (by simp)).1
              exact this.symm
            subst hl2
            have a1 := g1.last; have a2 := hp.last
            rw [a1] at a2
            rw [← Option.some.inj a2]; exact g2
        have hdy : dI l.length (w h l) s k y = n := by
          have g1 : Wk l.length (w h l) s k (m0 - (t + 1)) y := hy2.sym v.wcomm
          rcases dI_cases l.length (w h l) s k y with ⟨q2, h7, h8⟩ | ⟨h7, _⟩
          · have g2 : q2 ≤ m0 - (t + 1) := by
              rcases Nat.lt_or_ge (m0 - (t + 1)) q2 with h9 | h9
              · exact absurd g1 (h7.2 _ h9)
              · exact h9
            have g3 := dI_step h8 (hed.sym v.wcomm)
            omega
          · exact absurd ⟨_, g1⟩ h7
        have hle : c' ≤ y := by
          rcases Nat.lt_or_ge y c' with h7 | h7
          · exact absurd ⟨hdy, hed.2.2⟩ (hmin y h7 hed.2.1)
          · exact h7
        rw [val_snoc, val_snoc]; omega
  · rintro _ ⟨c, p, rfl, hp, hdc, hq⟩
    dsimp only
    have hck : c = k := dI_zero (N := l.length) (W := w h l) (s := s) (i := k) (by omega)
    subst hck
    refine Ret.condF (by simp) <| Ret.done ⟨p, ⟨m0, hD, hp, fun q hq' => ?_⟩, rfl⟩
    have := hq q hq'
    rwa [List.take_of_length_le (by rw [hq'.len]; omega)] at this
  · rintro _ ⟨p, hb, rfl⟩
    exact Ret.ok (hmk _ (.inr ⟨s, p, ⟨hs1, hs2, hs3, hs4⟩, hb, rfl⟩))
end
theorem r_refWhy (h : Hunt) {l : List Filing} (hl : l.length ≤ 30) (hp : ∀ f ∈ l, f.parts.length ≤ 20) (a b : Int) : Ret (P.ref08_Why h l a b) (Why h l a b) := by
  by_cases hc : check h l = 0
  · exact r_refWhy0 (check_iff.1 hc) a b
  · unfold P.ref08_Why
    refine Ret.bindM (r_refWeight h hl hp a b) ?_
    rintro _ rfl
    have e : Weight h l a b = (0, check h l) := by unfold Weight; rw [if_neg hc]
    rw [e]
    exact Ret.condT (by simp [hc]) (Ret.ok (.inl ⟨hc, rfl⟩))
theorem Why_len {h : Hunt} {l : List Filing} {a b : Int} {r : List Tie × Int} (hw : Why h l a b r) (hl : l.length ≤ 30) : r.1.length ≤ 30 := by
  rcases hw with ⟨_, rfl⟩ | ⟨_, _, rfl⟩ | ⟨_, i, k, _, hi, _, _, ⟨_, rfl⟩ | ⟨s, p, _, ⟨m, hd, hp, _⟩, rfl⟩⟩
  · exact Nat.zero_le _
  · exact Nat.zero_le _
  · exact Nat.zero_le _
  · have := hd.lt hi
    have := hp.len
    dsimp only
    rw [ties_len]; omega
theorem p_RingWeights (h : Hunt) (l : List Filing) (a b : Int) : P.law08_RingWeights h l a b = some true := by
  apply Ret.yes
  unfold P.law08_RingWeights
  refine Ret.bindM (r_Great l) ?_
  rintro _ rfl
  refine Ret.cond (fun _ => Ret.ok rfl) (fun hg => ?_)
  obtain ⟨hl, hp⟩ := great_out hg
  refine Ret.bindM (r_Twin hl hp) ?_
  rintro _ rfl
  refine Ret.bindM (r_ringWeight h hl hp a b) ?_
  rintro _ rfl
  refine Ret.bindM (r_refWeight h hl hp a b) ?_
  rintro _ rfl
  refine Ret.bindM (r_ringWhy h hl hp a b) ?_
  intro x hx
  refine Ret.bindM (r_refWhy h hl hp a b) ?_
  intro y hy
  obtain rfl := hx.uniq hy
  have hxl := Why_len hx hl
  refine Ret.bindM (Q' := fun b => b = true) ?_ fun b hb => Ret.ok hb
  refine Ret.bindM (r_ringCheck hl hp) ?_
  rintro _ rfl
  refine Ret.bindM (r_refCheck hl hp) ?_
  rintro _ rfl
  refine Ret.condT (decide_eq_true rfl) <| Ret.condT (decide_eq_true rfl) <| Ret.condT (decide_eq_true rfl) <| Ret.bindM (r_SameTies (by omega)) ?_
  rintro _ rfl
  refine Ret.condT (decide_eq_true rfl) <| Ret.condT (decide_eq_true rfl) <| Ret.bindM (r_SameSelf hl hp) fun b hb => Ret.ok hb
end Go.Proofs.Ytdbogmmdogjhpaa
