/-
  Part 9 of the texts that the statement's proof stands on: what memory holds, how code is walked, what the functions reckon. In the order in which they build.
-/

import Derived.Test.YtdbogmmdogjhpaaRb8
set_option linter.unusedVariables false
set_option linter.unusedSectionVars false
set_option maxRecDepth 20000
set_option maxHeartbeats 1000000
set_option linter.unusedVariables false
set_option linter.unusedSimpArgs false
namespace Go.Proofs.Ytdbogmmdogjhpaa
open Go Go.Sx
open Go.Rx (ixA)
theorem r_anyM {S κ α : Type} {f : S → κ × α → Option S} {m : FMap κ α} {l0 : List (κ × α)} (h0 : Lists m l0) {s0 : S} (Spec : S → Prop) (hall : ∀ l, Lists m l → ∃ s, l.foldlM f s0 = some s ∧ Spec s) (uniq : ∀ s s', Spec s → Spec s' → s = s') {Q : S → Prop} (h : ∀ s, Spec s → Q s) : Ret (anyM f m s0) Q := by
  obtain ⟨r, hr, hs⟩ := hall _ h0
  exact ⟨r, anyM_of h0 fun l hl => by
    obtain ⟨s, h1, h2⟩ := hall l hl
    rw [h1, uniq s r h2 hs], h r hs⟩
namespace S
/-- The greatest of some weights. -/
def Mx (W : Nat → Nat → Int) (p : Nat → Nat → Prop) (n : Int) : Prop := 0 ≤ n ∧ (∀ a b, p a b → W a b ≤ n) ∧ (n = 0 ∨ ∃ a b, p a b ∧ W a b = n)
theorem Mx.uniq {W : Nat → Nat → Int} {p : Nat → Nat → Prop} {n m : Int} (h1 : Mx W p n) (h2 : Mx W p m) : n = m := by
  obtain ⟨a1, a2, a3⟩ := h1
  obtain ⟨b1, b2, b3⟩ := h2
  have : n ≤ m := by
    rcases a3 with rfl | ⟨a, b, h, rfl⟩
    · exact b1
    · exact b2 a b h
  have : m ≤ n := by
    rcases b3 with rfl | ⟨a, b, h, rfl⟩
    · exact a1
    · exact a2 a b h
  omega
theorem Mx.congr {W : Nat → Nat → Int} {p q : Nat → Nat → Prop} {n : Int} (h1 : Mx W p n) (h : ∀ a b, p a b ↔ q a b) : Mx W q n :=
  ⟨h1.1, fun a b e => h1.2.1 a b ((h a b).2 e), h1.2.2.imp id fun ⟨a, b, e1, e2⟩ => ⟨a, b, (h a b).1 e1, e2⟩⟩
theorem Mx.none {W : Nat → Nat → Int} {p : Nat → Nat → Prop} (h : ∀ a b, ¬ p a b) : Mx W p 0 := ⟨Int.le_refl _, fun a b e => absurd e (h a b), .inl rfl⟩
theorem Mx.add {W : Nat → Nat → Int} {p q : Nat → Nat → Prop} {n : Int} {i k : Nat} (h1 : Mx W p n) (h : ∀ a b, q a b ↔ p a b ∨ (a = i ∧ b = k)) : Mx W q (max n (W i k)) := by
  obtain ⟨a1, a2, a3⟩ := h1
  refine ⟨by omega, fun a b e => ?_, ?_⟩
  · rcases (h a b).1 e with e | ⟨rfl, rfl⟩
    · have := a2 a b e; omega
    · omega
  · by_cases e : n < W i k
    · exact .inr ⟨i, k, (h i k).2 (.inr ⟨rfl, rfl⟩), by omega⟩
    · have e2 : max n (W i k) = n := by omega
      rw [e2]
      exact a3.imp id fun ⟨a, b, e1, e2⟩ => ⟨a, b, (h a b).2 (.inl e1), e2⟩
/-- Of the group, and not of it. -/
def Out (h : Hunt) (l : List Filing) (s : Int) (i : Nat) (a b : Nat) : Prop := a < l.length ∧ b < l.length ∧ RC h l s i a ∧ ¬ RC h l s i b
def Apart' (h : Hunt) (l : List Filing) (id s : Int) (r : List Int × Int × Int) : Prop :=
  (check h l ≠ 0 ∧ r = ([], 0, check h l)) ∨ (check h l = 0 ∧ id ∉ ids l ∧ r = ([], 0, 6)) ∨ (check h l = 0 ∧ id ∈ ids l ∧ inB 1 6001 s = false ∧ r = ([], 0, 2)) ∨
  (check h l = 0 ∧ inB 1 6001 s = true ∧ ∃ i n, i < l.length ∧ idA l i = id ∧ Mx (w h l) (Out h l s i) n ∧ r = (grp h l s i, n, 0))
theorem idx_at {xs : List Int} {v : Int} (h : v ∈ xs) : ∃ k : Nat, idx xs v = k ∧ k < xs.length ∧ xs.getD k 0 = v := by
  rcases idx_cases xs v with ⟨k, h1, hk, h2⟩ | ⟨_, h2⟩
  · exact ⟨k, h1, hk, by simp [List.getD, hk, h2]⟩
  · exact absurd h h2
end S
open S
theorem r_greatest {n y : Int} {Q : Int → Prop} (q : Q (max n y)) : Ret (P.ring_greatest n [y]) Q := by
  unfold P.ring_greatest
  refine Ret.bindM (Q' := fun r => r = max n y) (Ret.upto 1 (fun t (st : Int × Int) => st = (if t = 0 then n else max n y, (t : Int))) rfl ?_ ?_) fun r hr => Ret.ok (hr ▸ q)
  · rintro t ht _ rfl
    have : t = 0 := by omega
    subst this
    dsimp only
    refine Ret.condT (by simp) <| Ret.bind <| Ret.ixo (i := 0) (y := y) rfl <| Ret.bind <| Ret.chk (by omega) <| Ret.next ?_
    simp
  · rintro _ rfl
    exact Ret.condF (by simp) <| Ret.done (by simp)
section
variable {h : Hunt} {l : List Filing} (v : Vd h l)
include v
theorem r_stepA {i k : Nat} {n : Int} {Q : Int → Prop} (hi : i < l.length) (hk' : k < l.length) (q : Q (max n (wm h l i k))) : Ret (stepA (hk h l) i n k) Q := by
  have hlen := v.len
  unfold stepA
  exact Ret.bind <| r_ixA (by omega) <| Ret.bind <| r_ixA (by omega) <| Ret.bind <| r_tab (by omega) (by omega) <| Ret.bind <| r_greatest <| Ret.ok q
theorem r_farA {s : Int} {i a : Nat} (ha : a < l.length) {n : Int} {p : Nat → Nat → Prop} (hn : Mx (wm h l) p n) : Ret (farA (hk h l) (fdels (evy l.length) (gr h l s i)) a n) (Mx (wm h l) fun x b => p x b ∨ (x = a ∧ b < l.length ∧ b ∉ gr h l s i)) := by
  have hm : ∀ (k : Int) (y : Bool), fdels (evy l.length) (gr h l s i) k = some y ↔ ∃ b : Nat, k = b ∧ b < l.length ∧ b ∉ gr h l s i ∧ y = true := fun k y => by
    unfold fdels evy
    constructor
    · intro e
      split at e
      · cases e
      · rename_i h1
        split at e
        · rename_i h2
          refine ⟨k.toNat, by omega, by omega, fun h3 => h1 ?_, (Option.some.inj e).symm⟩
          have := mem_zl.2 h3
          rwa [show ((k.toNat : Nat) : Int) = k by omega] at this
        · cases e
    · rintro ⟨b, rfl, h1, h2, rfl⟩
      rw [if_neg (fun e => h2 (mem_zl.1 e)), if_pos (by omega)]
  unfold farA
  refine r_anyM (l0 := (fr (fun b => b ∉ gr h l s i) l.length).map fun (b : Nat) => ((b : Int), true)) ⟨?_, fun k y => ?_⟩ (Mx (wm h l) fun x b => p x b ∨ (x = a ∧ b < l.length ∧ b ∉ gr h l s i)) (fun L hL => ?_) (fun _ _ h1 h2 => h1.uniq h2) (fun _ h => h)
  · rw [List.map_map]
    exact List.pairwise_map.2 (fr_nodup.imp fun {a b} e h => e (by have h : (a : Int) = (b : Int) := h; omega))
  · rw [hm]
    simp only [List.mem_map, mem_fr]
    exact ⟨fun ⟨b, ⟨h1, h2⟩, e⟩ => by cases e; exact ⟨b, rfl, h1, h2, rfl⟩, fun ⟨b, h0, h1, h2, h3⟩ => ⟨b, ⟨h1, h2⟩, by rw [h0, h3]⟩⟩
  · have hin : ∀ x ∈ L, ∃ b : Nat, x.1 = b ∧ b < l.length ∧ b ∉ gr h l s i := fun x hx => by
      obtain ⟨b, h1, h2, h3, _⟩ := (hm x.1 x.2).1 ((hL.2 x.1 x.2).1 hx)
      exact ⟨b, h1, h2, h3⟩
    have key : ∀ (L : List (Int × Bool)) (n : Int) (p : Nat → Nat → Prop), (∀ x ∈ L, ∃ b : Nat, x.1 = b ∧ b < l.length ∧ b ∉ gr h l s i) → Mx (wm h l) p n → ∃ m, L.foldlM (fun n (y : Int × Bool) => stepA (hk h l) a n y.1) n = some m ∧ Mx (wm h l) (fun x b => p x b ∨ (x = a ∧ ((b : Int) ∈ L.map (·.1)))) m := by
      intro L
      induction L with
      | nil => exact fun n p _ hn => ⟨n, rfl, hn.congr fun a b => by simp⟩
      | cons x L ih =>
        intro n p hin hn
        obtain ⟨b, h1, h2, h3⟩ := hin x (List.mem_cons_self ..)
        obtain ⟨m, h4, h5⟩ := r_stepA v (n := n) (Q := fun m => m = max n (wm h l a b)) ha h2 rfl
        obtain ⟨m2, h6, h7⟩ := ih m (fun x c => p x c ∨ (x = a ∧ c = b)) (fun y hy => hin y (List.mem_cons_of_mem _ hy)) (h5 ▸ hn.add fun _ _ => Iff.rfl)
        refine ⟨m2, ?_, h7.congr fun c d => ?_⟩
        · rw [List.foldlM_cons, h1, h4]; exact h6
        · rw [List.map_cons, List.mem_cons, h1]
          constructor
          · rintro ((e | ⟨e1, e2⟩) | ⟨e1, e2⟩)
            · exact .inl e
            · exact .inr ⟨e1, .inl (by omega)⟩
            · exact .inr ⟨e1, .inr e2⟩
          · rintro (e | ⟨e1, e2 | e2⟩)
            · exact .inl (.inl e)
            · exact .inl (.inr ⟨e1, by omega⟩)
            · exact .inr ⟨e1, e2⟩
    obtain ⟨m, h1, h2⟩ := key L n p hin hn
    refine ⟨m, h1, h2.congr fun c d => ?_⟩
    have : (d : Int) ∈ L.map (·.1) ↔ d < l.length ∧ d ∉ gr h l s i := by
      rw [List.mem_map]
      constructor
      · rintro ⟨x, hx, e⟩
        obtain ⟨b, h1, h2, h3⟩ := hin x hx
        have : b = d := by omega
        exact this ▸ ⟨h2, h3⟩
      · rintro ⟨e1, e2⟩
        exact ⟨((d : Int), true), (hL.2 _ _).2 ((hm _ _).2 ⟨d, rfl, e1, e2, rfl⟩), rfl⟩
    rw [this]
theorem out_w {s : Int} {i : Nat} {n : Int} (hn : Mx (wm h l) (Out h l s i) n) : Mx (w h l) (Out h l s i) n := by
  have e : ∀ a b, Out h l s i a b → wm h l a b = w h l a b := fun a b ⟨_, _, h1, h2⟩ => by
    unfold wm
    rw [if_neg]
    rintro rfl
    exact h2 h1
  exact ⟨hn.1, fun a b h => by rw [← e a b h]; exact hn.2.1 a b h, hn.2.2.imp id fun ⟨a, b, h1, h2⟩ => ⟨a, b, h1, by rw [← e a b h1]; exact h2⟩⟩
theorem r_apartN {s : Int} {i : Nat} : Ret (apartN (hk h l) (fdels (evy l.length) (gr h l s i)) (zl (gr h l s i))) (Mx (w h l) (Out h l s i)) := by
  have hlen := v.len
  have hgl : (gr h l s i).length ≤ l.length := fr_len
  unfold apartN
  refine Ret.upto (gr h l s i).length (fun t (st : Int × Int) => st.1 = t ∧ Mx (wm h l) (fun a b => a ∈ (gr h l s i).take t ∧ b < l.length ∧ b ∉ gr h l s i) st.2) ⟨rfl, Mx.none fun a b e => by simpa using e.1⟩ ?_ ?_
  · rintro t ht ⟨_, n⟩ ⟨rfl, hn⟩
    have ha := mem_gr.1 (List.getElem_mem ht)
    dsimp only at hn ⊢
    refine Ret.condT (by rw [zl_len]; exact lt_cast ht) <| Ret.bind <| Ret.ixo (zl_get (List.getElem?_eq_getElem ht)) <| Ret.bindM (r_farA v ha.1 hn) fun m hm => Ret.bind <| Ret.chk (by omega) <| Ret.next ⟨rfl, hm.congr fun a b => ?_⟩
    rw [take_succ ht, List.mem_append, List.mem_singleton]
    constructor
    · rintro (⟨e1, e2⟩ | ⟨e1, e2⟩)
      · exact ⟨.inl e1, e2⟩
      · exact ⟨.inr e1, e2⟩
    · rintro ⟨e1 | e1, e2⟩
      · exact .inl ⟨e1, e2⟩
      · exact .inr ⟨e1, e2⟩
  · rintro ⟨_, n⟩ ⟨rfl, hn⟩
    dsimp only at hn ⊢
    refine Ret.condF (by rw [zl_len]; exact not_lt_cast) <| Ret.done (out_w v (hn.congr fun a b => ?_))
    rw [List.take_length, mem_gr, mem_gr]
    exact ⟨fun ⟨⟨e1, e2⟩, e3, e4⟩ => ⟨e1, e3, e2, fun e => e4 ⟨e3, e⟩⟩, fun ⟨e1, e2, e3, e4⟩ => ⟨⟨e1, e3⟩, e2, fun e => e4 e.2⟩⟩
theorem mem_grp {s : Int} {i a : Nat} (ha : a < l.length) : idA l a ∈ grp h l s i ↔ RC h l s i a := by
  unfold grp
  rw [List.mem_map]
  constructor
  · rintro ⟨k, hk', e⟩
    have h1 := mem_gr.1 hk'
    exact idA_inj v h1.1 ha e ▸ h1.2
  · exact fun e => ⟨a, mem_gr.2 ⟨ha, e⟩, rfl⟩
theorem grp_len {s : Int} {i : Nat} : (grp h l s i).length ≤ l.length := by unfold grp; rw [List.length_map]; exact fr_len
theorem ring_Apart0 (id s : Int) : Ret (P.ring_Apart h l id s) (Apart' h l id s) := by
  have hlen := v.len
  have hc : check h l = 0 := check_iff.2 v
  unfold P.ring_Apart
  refine Ret.bindM (r_open0 v) ?_
  rintro _ rfl
  refine Ret.condF rfl <| Ret.bind <| Ret.ok <| Ret.bindM (r_Index (v := id) (by rw [hk_ids]; omega)) ?_
  rintro _ rfl
  show Ret (cond (decide (idx (ids l) id < 0)) _ _) _
  by_cases hm : id ∈ ids l
  · obtain ⟨k, e1, e2, e3⟩ := idx_at hm
    have hk' : k < l.length := by simpa [ids] using e2
    rw [show idx (hk h l).ids id = (k : Int) from e1, e1]
    refine Ret.condF (by simp) <| Ret.bind <| r_in1 <| Ret.cond (fun h1 => Ret.ok ?_) (fun h1 => ?_)
    · exact .inr (.inr (.inl ⟨hc, hm, by simpa using h1, rfl⟩))
    · have h1 : inB 1 6001 s = true := by simpa using h1
      refine Ret.bindM (r_everyone v) ?_
      rintro _ rfl
      refine Ret.bindM (r_group v (inB_iff.1 h1).1 hk' (lf_evy.2 hk') fun a b hb _ _ => lf_evy.2 hb) ?_
      rintro _ rfl
      refine Ret.bindM (r_apartN v) fun n hn => ?_
      have hgl : (gr h l s k).length ≤ l.length := fr_len
      refine Ret.bindM (r_named v (fun a ha => (mem_gr.1 ha).1) (by omega)) ?_
      rintro _ rfl
      exact Ret.ok (.inr (.inr (.inr ⟨hc, h1, k, n, hk', e3, hn, rfl⟩)))
  · rw [idx_none hm]
    exact Ret.condT rfl <| Ret.ok (.inr (.inl ⟨hc, hm, rfl⟩))
end
theorem r_ringApart (h : Hunt) {l : List Filing} (hl : l.length ≤ 30) (hp : ∀ f ∈ l, f.parts.length ≤ 20) (id s : Int) : Ret (P.ring_Apart h l id s) (Apart' h l id s) := by
  by_cases hc : check h l = 0
  · exact ring_Apart0 (check_iff.1 hc) id s
  · unfold P.ring_Apart
    refine Ret.bindM (r_open h hl hp) ?_
    rintro _ rfl
    rw [if_neg hc]
    exact Ret.condT (by simpa using hc) <| Ret.ok (.inl ⟨hc, rfl⟩)
theorem Apart'.uniq {h : Hunt} {l : List Filing} {id s : Int} {r r' : List Int × Int × Int} (h1 : Apart' h l id s r) (h2 : Apart' h l id s r') : r = r' := by
  rcases h1 with ⟨a1, rfl⟩ | ⟨a1, a2, rfl⟩ | ⟨a1, a2, a3, rfl⟩ | ⟨a1, a2, i, n, a3, a4, a5, rfl⟩ <;> rcases h2 with ⟨b1, rfl⟩ | ⟨b1, b2, rfl⟩ | ⟨b1, b2, b3, rfl⟩ | ⟨b1, b2, j, m, b3, b4, b5, rfl⟩ <;> try first | rfl | exact absurd b1 a1 | exact absurd a1 b1 | exact absurd b2 a2 | exact absurd a2 b2
  · exact absurd (b4 ▸ (show idA l j ∈ ids l by unfold idA; rw [id_at b3]; exact List.mem_map_of_mem (List.getElem_mem b3))) a2
  · rw [b2] at a3; cases a3
  · exact absurd (a4 ▸ (show idA l i ∈ ids l by unfold idA; rw [id_at a3]; exact List.mem_map_of_mem (List.getElem_mem a3))) b2
  · rw [a2] at b3; cases b3
  · have : i = j := idA_inj (check_iff.1 a1) a3 b3 (a4.trans b4.symm)
    subst this
    rw [a5.uniq b5]
end Go.Proofs.Ytdbogmmdogjhpaa
set_option maxRecDepth 20000
set_option maxHeartbeats 1000000
set_option linter.unusedVariables false
set_option linter.unusedSimpArgs false
namespace Go.Proofs.Ytdbogmmdogjhpaa
open Go Go.Sx
open Go.Rx (ixA)
namespace S
def cg (h : Hunt) (l : List Filing) (s : Int) (k : Nat) : Prop := h.size ≤ ((gr h l s k).length : Int)
def cb (h : Hunt) (l : List Filing) (good : List Int) (s : Int) (k : Nat) : Prop := cg h l s k ∧ idA l k ∈ good
noncomputable def caught (h : Hunt) (l : List Filing) (s : Int) : Int := (fr (cg h l s) l.length).length
noncomputable def alarms (h : Hunt) (l : List Filing) (good : List Int) (s : Int) : Int := (fr (cb h l good s) l.length).length
def cn (good xs : List Int) : Int × Int := (xs.length, ((xs.filter fun x => decide (x ∈ good)).length : Nat))
theorem cn_snoc {good xs : List Int} {x : Int} : cn good (xs ++ [x]) = ((cn good xs).1 + 1, (cn good xs).2 + if x ∈ good then 1 else 0) := by
  unfold cn
  rw [List.filter_append]
  by_cases e : x ∈ good <;> simp [e]
theorem gr_mono {h : Hunt} {l : List Filing} {s t : Int} (hst : s ≤ t) (k : Nat) : (gr h l t k).length ≤ (gr h l s k).length := fr_sub fun a _ ha => ha.mono hst
theorem cg_mono {h : Hunt} {l : List Filing} {s t : Int} (hst : s ≤ t) {k : Nat} (hk' : cg h l t k) : cg h l s k := by
  have := gr_mono (h := h) (l := l) hst k
  unfold cg at *
  omega
theorem alarms_mono {h : Hunt} {l : List Filing} {good : List Int} {s t : Int} (hst : s ≤ t) : alarms h l good t ≤ alarms h l good s := by
  unfold alarms
  have : (fr (cb h l good t) l.length).length ≤ (fr (cb h l good s) l.length).length := fr_sub fun k _ hk' => ⟨cg_mono hst hk'.1, hk'.2⟩
  omega
def Lst (h : Hunt) (l : List Filing) (good : List Int) (most s : Int) : Prop := 1 ≤ s ∧ s ≤ 6001 ∧ alarms h l good s ≤ most ∧ ∀ t, 1 ≤ t → t < s → most < alarms h l good t
theorem Lst.uniq {h : Hunt} {l : List Filing} {good : List Int} {most s t : Int} (h1 : Lst h l good most s) (h2 : Lst h l good most t) : s = t := by
  obtain ⟨a1, a2, a3, a4⟩ := h1
  obtain ⟨b1, b2, b3, b4⟩ := h2
  rcases Int.lt_trichotomy s t with e | e | e
  · have := b4 s a1 e; omega
  · exact e
  · have := a4 t b1 e; omega
def Gd (l : List Filing) (good : List Int) (most : Int) : Prop := good.Pairwise (· < ·) ∧ (∀ g ∈ good, g ∈ ids l) ∧ 0 ≤ most ∧ most ≤ 24
def Tune' (h : Hunt) (l : List Filing) (good : List Int) (most : Int) (r : Int × Int × Int × Int) : Prop :=
  (check h l ≠ 0 ∧ r = (0, 0, 0, check h l)) ∨ (check h l = 0 ∧ ¬ Gd l good most ∧ r = (0, 0, 0, 2)) ∨ (check h l = 0 ∧ Gd l good most ∧ ∃ s, Lst h l good most s ∧ r = (s, caught h l s, alarms h l good s, 0))
theorem Tune'.uniq {h : Hunt} {l : List Filing} {good : List Int} {most : Int} {r r' : Int × Int × Int × Int} (h1 : Tune' h l good most r) (h2 : Tune' h l good most r') : r = r' := by
  rcases h1 with ⟨a1, rfl⟩ | ⟨a1, a2, rfl⟩ | ⟨a1, a2, s, a3, rfl⟩ <;> rcases h2 with ⟨b1, rfl⟩ | ⟨b1, b2, rfl⟩ | ⟨b1, b2, t, b3, rfl⟩ <;> first | rfl | exact absurd b1 a1 | exact absurd a1 b1 | exact absurd b2 a2 | exact absurd a2 b2 | skip
  rw [a3.uniq b3]
end S
open S
section
variable {h : Hunt} {l : List Filing} (v : Vd h l)
include v
theorem gr_same {s : Int} {i k : Nat} (e : RC h l s i k) : gr h l s i = gr h l s k := fr_congr fun a _ => ⟨fun x => (e.sym v.wcomm).trans x, fun x => e.trans x⟩
theorem rgs_flat (s : Int) : ∃ G : List Nat, (rgs h l s).flatten = G.map (idA l) ∧ G.Perm (fr (cg h l s) l.length) := by
  refine ⟨((fr (Head h l s) l.length).map (gr h l s)).flatten, ?_, ?_⟩
  · unfold rgs
    rw [List.map_flatten, List.map_map]
    rfl
  · refine (List.perm_ext_iff_of_nodup (List.pairwise_flatten.2 ⟨fun x hx => ?_, ?_⟩) fr_nodup).2 fun k => ?_
    · obtain ⟨i, _, rfl⟩ := List.mem_map.1 hx
      exact fr_nodup
    · refine List.pairwise_map.2 ?_
      refine (fr_lt (p := Head h l s) (n := l.length)).imp_of_mem fun {i j} hi hj hij => ?_
      rintro k hk1 _ hk2 rfl
      have h1 := (mem_gr.1 hk1).2
      have h2 := (mem_gr.1 hk2).2
      exact (mem_fr.1 hj).2.1 i hij (h2.trans (h1.sym v.wcomm))
    · rw [List.mem_flatten, mem_fr]
      constructor
      · rintro ⟨x, hx, hk'⟩
        obtain ⟨i, hi, rfl⟩ := List.mem_map.1 hx
        have h1 := mem_gr.1 hk'
        refine ⟨h1.1, ?_⟩
        unfold cg
        rw [← gr_same v h1.2]
        exact (mem_fr.1 hi).2.2
      · rintro ⟨hk1, hk2⟩
        obtain ⟨i, hi, hmin⟩ := least_ex (p := fun i => RC h l s i k) ⟨k, .refl⟩
        have hil : i < l.length := (hi.sym v.wcomm).lt hk1
        refine ⟨gr h l s i, List.mem_map.2 ⟨i, mem_fr.2 ⟨hil, fun j hj e => hmin j hj ((e.sym v.wcomm).trans hi), ?_⟩, rfl⟩, mem_gr.2 ⟨hk1, hi⟩⟩
        rw [gr_same v hi]
        exact hk2
theorem cn_rgs (good : List Int) (s : Int) : cn good (rgs h l s).flatten = (caught h l s, alarms h l good s) := by
  obtain ⟨G, h1, h2⟩ := rgs_flat v s
  rw [h1]
  unfold cn caught alarms
  have e1 : (G.map (idA l)).length = (fr (cg h l s) l.length).length := by rw [List.length_map, h2.length_eq]
  have e2 : ((G.map (idA l)).filter fun x => decide (x ∈ good)).length = (fr (cb h l good s) l.length).length := by
    rw [List.filter_map, List.length_map]
    have h3 := (h2.filter fun k => decide (idA l k ∈ good)).length_eq
    have h4 : (fr (cg h l s) l.length).filter (fun k => decide (idA l k ∈ good)) = fr (cb h l good s) l.length := by
      unfold fr
      rw [List.filter_filter]
      refine List.filter_congr fun k _ => ?_
      by_cases e1 : cg h l s k <;> by_cases e2 : idA l k ∈ good <;> simp [cb, e1, e2]
    rw [h4] at h3
    exact h3
  rw [e1, e2]
theorem flat_len (s : Int) : (rgs h l s).flatten.length ≤ l.length := by
  obtain ⟨G, h1, h2⟩ := rgs_flat v s
  rw [h1, List.length_map, h2.length_eq]
  exact fr_len
omit v in
theorem take_flat {xss : List (List Int)} {n : Nat} (hn : n < xss.length) : (xss.take (n + 1)).flatten = (xss.take n).flatten ++ xss[n] := by
  rw [take_succ hn, List.flatten_append]; simp
omit v in
theorem take_flat_len {xss : List (List Int)} (n : Nat) : (xss.take n).flatten.length ≤ xss.flatten.length := by
  have : xss.flatten = (xss.take n).flatten ++ (xss.drop n).flatten := by rw [← List.flatten_append, List.take_append_drop]
  rw [this, List.length_append]; omega
omit v in
theorem r_Concat {xss : List (List Int)} (h1 : xss.length ≤ 1000) (h2 : xss.flatten.length ≤ 1000) : Ret (P.slices_Concat_63 xss) (· = xss.flatten) := by
  unfold P.slices_Concat_63
  have hle := fun n => take_flat_len (xss := xss) n
  refine Ret.bindM (Q' := fun r => r = (xss.flatten.length : Int)) (Ret.upto xss.length (fun n (t : Int × Int) => t = ((n : Int), (((xss.take n).flatten.length : Nat) : Int))) (by simp) ?_ ?_) ?_
  · rintro n hn _ rfl
    have e1 := hle n
    have e2 := hle (n + 1)
    have e3 : (xss.take (n + 1)).flatten.length = (xss.take n).flatten.length + xss[n].length := by rw [take_flat hn, List.length_append]
    dsimp only
    refine Ret.condT (lt_cast hn) <| Ret.bind <| ixR hn <| Ret.bind <| Ret.chk (by omega) <| Ret.condF (decide_eq_false (by omega)) <| Ret.bind <| Ret.chk (by omega) <| Ret.next ?_
    rw [e3]; simp
  · rintro _ rfl
    exact Ret.condF not_lt_cast <| Ret.done (by rw [List.take_length])
  · rintro _ rfl
    refine Ret.bind <| Ret.val (show P.slices_Grow_74 () (xss.flatten.length : Int) = some [] by unfold P.slices_Grow_74; rw [if_pos (by omega)]) ?_
    refine Ret.bindM (Q' := fun r => r = xss.flatten) (Ret.upto xss.length (fun n (t : Int × List Int) => t = ((n : Int), (xss.take n).flatten)) (by simp) ?_ ?_) fun r hr => Ret.ok hr
    · rintro n hn _ rfl
      have e1 := hle n
      have e2 := hle (n + 1)
      have e3 : (xss.take (n + 1)).flatten.length = (xss.take n).flatten.length + xss[n].length := by rw [take_flat hn, List.length_append]
      dsimp only
      refine Ret.condT (lt_cast hn) <| Ret.bind <| ixR hn <| Ret.bind <| Ret.appo (by omega) (by omega) <| Ret.bind <| Ret.chk (by omega) <| Ret.next ?_
      rw [take_flat hn]; simp
    · rintro _ rfl
      exact Ret.condF not_lt_cast <| Ret.done (by rw [List.take_length])
omit v in
theorem heads_len (s : Int) : (rgs h l s).length ≤ l.length := by unfold rgs; rw [List.length_map]; exact fr_len
theorem r_count {s : Int} (hs : 1 ≤ s) {good : List Int} (hg : good.length ≤ 1000) : Ret (P.ring_Tune_in2 s (some (hk h l)) good) (· = (caught h l s, alarms h l good s)) := by
  have hlen := v.len
  have e1 := heads_len (h := h) (l := l) s
  have e2 := flat_len v s
  unfold P.ring_Tune_in2
  refine Ret.bind <| Ret.ok <| Ret.bindM (r_ringRings0 v hs) ?_
  rintro _ rfl
  refine Ret.bindM (r_Concat (by omega) (by omega)) ?_
  rintro _ rfl
  rw [← cn_rgs v good s]
  generalize (rgs h l s).flatten = xs at e2
  refine Ret.bindM (Q' := fun r => r = cn good xs) (Ret.upto xs.length (fun n (t : Int × Int × Int) => t = ((n : Int), cn good (xs.take n))) rfl ?_ ?_) fun r hr => Ret.ok hr
  · rintro n hn _ rfl
    have e3 : (cn good (xs.take n)).1 ≤ 24 ∧ 0 ≤ (cn good (xs.take n)).1 := by
      unfold cn
      dsimp only
      rw [List.length_take]; omega
    have e4 : (cn good (xs.take n)).2 ≤ 24 ∧ 0 ≤ (cn good (xs.take n)).2 := by
      have := List.length_filter_le (fun x => decide (x ∈ good)) (xs.take n)
      rw [List.length_take] at this
      unfold cn
      dsimp only
      omega
    dsimp only
    refine Ret.condT (lt_cast hn) <| Ret.bind <| ixR hn <| Ret.bind <| Ret.chk (by omega) <| Ret.bindM (r_Contains (by omega)) ?_
    rintro _ rfl
    refine Ret.bindM (Q' := fun r => r = (cn good (xs.take n)).2 + if xs[n] ∈ good then 1 else 0) (Ret.cond (fun hc => Ret.bind <| Ret.chk (by omega) <| Ret.ok ?_) (fun hc => Ret.ok ?_)) ?_
    · rw [if_pos (of_decide_eq_true hc)]
    · rw [if_neg (of_decide_eq_false hc)]; omega
    · rintro _ rfl
      refine Ret.bind <| Ret.chk (by omega) <| Ret.next ?_
      rw [take_succ hn, cn_snoc]
      rfl
  · rintro _ rfl
    exact Ret.condF not_lt_cast <| Ret.done (by rw [List.take_length]; rfl)
theorem rc_top {i k : Nat} (e : RC h l 6001 i k) : k = i := Rc.ind (p := fun k => k = i) rfl (fun a b ha he => by have := (v.win_ a b).2; have := he.2.2; omega) e
theorem alarms_top (good : List Int) : alarms h l good 6001 = 0 := by
  have hsz := v.siz
  unfold alarms
  have : fr (cb h l good 6001) l.length = [] := List.eq_nil_iff_forall_not_mem.2 fun k hk' => by
    have h1 := (mem_fr.1 hk').2.1
    unfold cg at h1
    have h2 : (gr h l 6001 k).length ≤ 1 := sub_len _ [k] fr_nodup fun x hx => List.mem_singleton.2 (rc_top v (mem_gr.1 hx).2)
    omega
  rw [this]; rfl
omit v in
theorem r_least {so : Int → Option Bool} {p : Int → Prop} (hso : ∀ s, 1 ≤ s → s ≤ 6001 → Ret (so s) fun b => b = true ↔ p s) (hp : ∀ s t, s ≤ t → p s → p t) (htop : p 6001) : Ret (P.ring_least_64 1 6001 so) fun r => 1 ≤ r ∧ r ≤ 6001 ∧ p r ∧ ∀ t, 1 ≤ t → t < r → ¬ p t := by
  unfold P.ring_least_64
  refine Ret.bindM (Q' := fun r => 1 ≤ r ∧ r ≤ 6001 ∧ p r ∧ ∀ t, 1 ≤ t → t < r → ¬ p t) (Ret.loop (fun (t : Int × Int) => 1 ≤ t.1 ∧ t.1 ≤ t.2 ∧ t.2 ≤ 6001 ∧ p t.2 ∧ ∀ x, 1 ≤ x → x < t.1 → ¬ p x) (fun t => (t.2 - t.1).toNat) ⟨by decide, by decide, by decide, htop, fun x h1 h2 => absurd h2 (by dsimp only; omega)⟩ ?_) fun r hr => Ret.ok hr
  rintro ⟨lo, hi⟩ ⟨h1, h2, h3, h4, h5⟩
  dsimp only at h1 h2 h3 h4 h5 ⊢
  refine Ret.cond (fun hc => ?_) (fun hc => Ret.done ?_)
  · have hc := of_decide_eq_true hc
    refine Ret.bind <| Ret.chk (by omega) <| Ret.bind <| Ret.quoO (by omega) (by omega) (by omega) <| Ret.bind <| Ret.chk (by omega) <| Ret.bindM (hso _ (by omega) (by omega)) fun b hb => ?_
    generalize hm : lo + (hi - lo) / 2 = m at hb
    have hm1 : lo ≤ m ∧ m < hi := by omega
    refine Ret.bindM (Q' := fun r => (1 ≤ r.1 ∧ r.1 ≤ r.2 ∧ r.2 ≤ 6001 ∧ p r.2 ∧ ∀ x, 1 ≤ x → x < r.1 → ¬ p x) ∧ (r.2 - r.1).toNat < (hi - lo).toNat) (Ret.cond (fun hc2 => Ret.ok ?_) (fun hc2 => Ret.bind <| Ret.chk (by omega) <| Ret.ok ?_)) fun r hr => Ret.next hr
    · exact ⟨⟨h1, by dsimp only; omega, by dsimp only; omega, hb.1 hc2, h5⟩, by dsimp only; omega⟩
    · refine ⟨⟨by dsimp only; omega, by dsimp only; omega, h3, h4, fun x hx1 hx2 hx3 => ?_⟩, by dsimp only; omega⟩
      dsimp only at hx2
      have := hb.2 (hp x m (by omega) hx3)
      rw [this] at hc2; cases hc2
  · have hc := of_decide_eq_false hc
    have : lo = hi := by omega
    subst this
    exact ⟨h1, h3, h4, h5⟩
omit v in
theorem gd_ring (hv : Vd h l) {good : List Int} : (rB (-1) good = true ∧ ∀ g ∈ good, g ∈ ids l) ↔ (good.Pairwise (· < ·) ∧ ∀ g ∈ good, g ∈ ids l) := by
  rw [rB_iff]
  refine ⟨fun ⟨h1, h2⟩ => ⟨h1.1, h2⟩, fun ⟨h1, h2⟩ => ⟨⟨h1, fun x hx => ?_⟩, h2⟩⟩
  obtain ⟨f, hf, e⟩ := List.mem_map.1 (h2 x hx)
  have := hv.idr f hf
  omega
theorem ring_Tune0 {good : List Int} (hg : good.length ≤ 1000) (most : Int) : Ret (P.ring_Tune h l good most) (Tune' h l good most) := by
  have hlen := v.len
  have hc : check h l = 0 := check_iff.2 v
  unfold P.ring_Tune
  refine Ret.bindM (r_open0 v) ?_
  rintro _ rfl
  refine Ret.condF rfl ?_
  refine Ret.bindM (Q' := fun b => b = false ↔ Gd l good most) (Ret.bindM (r_rising (by omega)) fun b hb => Ret.cond (fun h1 => Ret.ok ?_) (fun h1 => Ret.bind <| r_in1 <| Ret.cond (fun h2 => Ret.ok ?_) (fun h2 => ?_))) ?_
  · refine ⟨(fun e => by cases e), fun e => ?_⟩
    rw [hb, ((gd_ring v).2 ⟨e.1, e.2.1⟩).1] at h1; cases h1
  · refine ⟨(fun e => by cases e), fun e => ?_⟩
    rw [inB_iff.2 e.2.2] at h2; cases h2
  · refine Ret.bindM (r_ContainsFunc (fun x => !decide (x ∈ ids l)) (fun x hx => ?_) (by omega)) fun c hc2 => Ret.ok ?_
    · unfold P.ring_Tune_in1
      exact Ret.bind <| Ret.ok <| Ret.bindM (r_Contains (by rw [hk_ids]; omega)) fun c hc2 => Ret.ok (by rw [hc2]; rfl)
    · have h1 : rB (-1) good = true := by rw [← hb]; simpa using h1
      have h2 : inB 0 24 most = true := by simpa using h2
      rw [hc2]
      constructor
      · intro e
        have e2 : ∀ g ∈ good, g ∈ ids l := by simpa using e
        exact ⟨((gd_ring v).1 ⟨h1, e2⟩).1, e2, inB_iff.1 h2⟩
      · intro e
        have := e.2.1
        simpa using this
  · intro b hb
    refine Ret.cond (fun h1 => Ret.ok (.inr (.inl ⟨hc, (fun e => by rw [hb.2 e] at h1; cases h1), rfl⟩))) (fun h1 => ?_)
    have hgd := hb.1 h1
    have hcnt : ∀ s, 1 ≤ s → Ret (P.ring_Tune_in2 s (some (hk h l)) good) (· = (caught h l s, alarms h l good s)) := fun s hs => r_count v hs hg
    refine Ret.bindM (r_least (p := fun s => alarms h l good s ≤ most) (fun s hs _ => ?_) (fun s t hst e => by have := alarms_mono (h := h) (l := l) (good := good) hst; omega) (by rw [alarms_top v]; exact hgd.2.2.1)) ?_
    · unfold P.ring_Tune_in3
      refine Ret.bindM (hcnt s hs) ?_
      rintro _ rfl
      exact Ret.ok decide_eq_true_iff
    · rintro s ⟨h1, h2, h3, h4⟩
      refine Ret.bindM (hcnt s h1) ?_
      rintro _ rfl
      exact Ret.ok (.inr (.inr ⟨hc, hgd, s, ⟨h1, h2, h3, fun t ht1 ht2 => by have := h4 t ht1 ht2; omega⟩, rfl⟩))
end
theorem r_ringTune (h : Hunt) {l : List Filing} (hl : l.length ≤ 30) (hp : ∀ f ∈ l, f.parts.length ≤ 20) {good : List Int} (hg : good.length ≤ 1000) (most : Int) : Ret (P.ring_Tune h l good most) (Tune' h l good most) := by
  by_cases hc : check h l = 0
  · exact ring_Tune0 (check_iff.1 hc) hg most
  · unfold P.ring_Tune
    refine Ret.bindM (r_open h hl hp) ?_
    rintro _ rfl
    rw [if_neg hc]
    exact Ret.condT (by simpa using hc) <| Ret.ok (.inl ⟨hc, rfl⟩)
end Go.Proofs.Ytdbogmmdogjhpaa
set_option maxRecDepth 20000
set_option maxHeartbeats 1000000
set_option linter.unusedVariables false
set_option linter.unusedSimpArgs false
namespace Go.Proofs.Ytdbogmmdogjhpaa
open Go Go.Sx
open Go.Rx (ixA)
open S
theorem Rings_len (h : Hunt) {l : List Filing} (hl : l.length ≤ 30) (s : Int) : (Rings h l s).1.length ≤ 30 ∧ ∀ x ∈ (Rings h l s).1, x.length ≤ 30 := by
  unfold Rings
  split
  · rename_i hc
    split
    · have := heads_len (h := h) (l := l) s
      refine ⟨by dsimp only; omega, fun x hx => ?_⟩
      obtain ⟨i, _, rfl⟩ := List.mem_map.1 (show x ∈ (fr (Head h l s) l.length).map (grp h l s) from hx)
      have := grp_len (check_iff.1 hc) (s := s) (i := i)
      omega
    · exact ⟨Nat.zero_le _, fun x hx => by cases hx⟩
  · exact ⟨Nat.zero_le _, fun x hx => by cases hx⟩
end Go.Proofs.Ytdbogmmdogjhpaa
set_option maxRecDepth 20000
set_option maxHeartbeats 1000000
set_option linter.unusedVariables false
set_option linter.unusedSimpArgs false
namespace Go.Proofs.Ytdbogmmdogjhpaa
open Go Go.Sx
open Go.Rx (ixA)
namespace S
/-! Reckoning what is reached. -/
def rch (N : Nat) (W : Nat → Nat → Int) (s : Int) (i : Nat) : Nat → List Nat
  | 0 => [i]
  | n + 1 => (List.range N).filter fun k => (rch N W s i n).any fun j => decide (j = k) || decide (s ≤ W j k)
theorem mem_rch {N : Nat} {W : Nat → Nat → Int} {s : Int} {i : Nat} (hi : i < N) : ∀ {n k : Nat}, k ∈ rch N W s i n ↔ ∃ m, m ≤ n ∧ Wk N W s i m k
  | 0, k => by
    show k ∈ [i] ↔ _
    rw [List.mem_singleton]
    constructor
    · rintro rfl; exact ⟨0, Nat.le_refl _, rfl⟩
    · rintro ⟨m, hm, h⟩
      have : m = 0 := by omega
      subst this; exact h
  | n + 1, k => by
    unfold rch
    rw [List.mem_filter, List.mem_range, List.any_eq_true]
    constructor
    · rintro ⟨hk, j, hj, e⟩
      obtain ⟨m, hm, h⟩ := (mem_rch hi).1 hj
      rw [Bool.or_eq_true, decide_eq_true_iff, decide_eq_true_iff] at e
      rcases e with rfl | e
      · exact ⟨m, by omega, h⟩
      · exact ⟨m + 1, by omega, j, h, h.lt hi, hk, e⟩
    · rintro ⟨m, hm, h⟩
      refine ⟨h.lt hi, ?_⟩
      by_cases e : m ≤ n
      · exact ⟨k, (mem_rch hi).2 ⟨m, e, h⟩, by simp⟩
      · have : m = n + 1 := by omega
        subst this
        obtain ⟨j, h1, h2⟩ := h
        exact ⟨j, (mem_rch hi).2 ⟨n, Nat.le_refl _, h1⟩, by simp [h2.2.2]⟩
theorem rc_rch {N : Nat} {W : Nat → Nat → Int} {s : Int} {i k : Nat} (hi : i < N) : Rc N W s i k ↔ k ∈ rch N W s i N := by
  rw [mem_rch hi]
  constructor
  · intro h
    obtain ⟨m, hm⟩ := IsD.of h
    exact ⟨m, Nat.le_of_lt (hm.lt hi), hm.1⟩
  · rintro ⟨m, _, h⟩; exact ⟨m, h⟩
theorem wk_tab {N : Nat} {W W' : Nat → Nat → Int} (hW : ∀ a, a < N → ∀ b, b < N → W a b = W' a b) {s : Int} {i : Nat} : ∀ {m k : Nat}, Wk N W s i m k ↔ Wk N W' s i m k
  | 0, k => Iff.rfl
  | m + 1, k => by
    constructor
    · rintro ⟨j, h1, h2, h3, h4⟩; exact ⟨j, (wk_tab hW).1 h1, h2, h3, by rw [← hW j h2 k h3]; exact h4⟩
    · rintro ⟨j, h1, h2, h3, h4⟩; exact ⟨j, (wk_tab hW).2 h1, h2, h3, by rw [hW j h2 k h3]; exact h4⟩
def h0 : Hunt := ⟨30, 4, 3⟩
def l0 : List Filing := [⟨1, 10, [100, 200, 900]⟩, ⟨2, 20, [100, 300, 900]⟩, ⟨3, 25, [200, 300, 900]⟩, ⟨4, 30, [300, 400, 500, 900]⟩, ⟨5, 50, [500]⟩, ⟨6, 99, [400, 900]⟩]
def T0 (a b : Nat) : Int := (([[2000, 1000, 1000, 0, 0, 0], [1000, 1500, 500, 500, 0, 0], [1000, 500, 1500, 500, 0, 0], [0, 500, 500, 2500, 1000, 0], [0, 0, 0, 1000, 1000, 0], [0, 0, 0, 0, 0, 1000]] : List (List Int)).getD a []).getD b 0
theorem w0 : ∀ a, a < 6 → ∀ b, b < 6 → w h0 l0 a b = T0 a b := by decide +kernel
theorem c0 : check h0 l0 = 0 := by decide +kernel
theorem rc0 {s : Int} {i k : Nat} (hi : i < 6) : RC h0 l0 s i k ↔ k ∈ rch 6 T0 s i 6 := by
  rw [← rc_rch hi]
  constructor
  · rintro ⟨m, h⟩; exact ⟨m, (wk_tab (N := 6) w0).1 h⟩
  · rintro ⟨m, h⟩; exact ⟨m, (wk_tab (N := 6) w0).2 h⟩
theorem fr_eq {p : Nat → Prop} {n : Nat} {f : Nat → Bool} (h : ∀ k < n, (p k ↔ f k = true)) : fr p n = (List.range n).filter f := by
  unfold fr
  refine List.filter_congr fun k hk => ?_
  have := h k (List.mem_range.1 hk)
  by_cases e : p k
  · simp [e, this.1 e]
  · have e2 : f k = false := by
      cases hf : f k with
      | false => rfl
      | true => exact absurd (this.2 hf) e
    simp [e, e2]
def grE (s : Int) (i : Nat) : List Nat := (List.range 6).filter fun k => decide (k ∈ rch 6 T0 s i 6)
theorem gr0 {s : Int} {i : Nat} (hi : i < 6) : gr h0 l0 s i = grE s i := fr_eq fun k _ => by rw [rc0 hi, decide_eq_true_iff]
def headE (s : Int) (i : Nat) : Bool := ((List.range i).all fun k => !decide (k ∈ rch 6 T0 s i 6)) && decide (3 ≤ ((grE s i).length : Int))
def rgsE (s : Int) : List (List Int) := ((List.range 6).filter (headE s)).map fun i => (grE s i).map (idA l0)
theorem rgs0 (s : Int) : rgs h0 l0 s = rgsE s := by
  have h1 : fr (Head h0 l0 s) l0.length = (List.range 6).filter (headE s) := fr_eq fun i hi => by
    have hi : i < 6 := hi
    unfold Head headE
    rw [gr0 hi, Bool.and_eq_true, decide_eq_true_iff, List.all_eq_true]
    refine and_congr ?_ Iff.rfl
    constructor
    · intro h k hk
      have := h k (List.mem_range.1 hk)
      rw [rc0 hi] at this
      simp [this]
    · intro h k hk e
      have := h k (List.mem_range.2 hk)
      rw [rc0 hi] at e
      simp [e] at this
  unfold rgs rgsE
  rw [h1]
  refine List.map_congr_left fun i hi => ?_
  unfold grp
  rw [gr0 (List.mem_range.1 (List.mem_filter.1 hi).1)]
theorem mx0 {s : Int} {i : Nat} (hi : i < 6) {n : Int} (h1 : 0 ≤ n) (h2 : ((List.range 6).all fun a => (List.range 6).all fun b => !decide (a ∈ rch 6 T0 s i 6) || decide (b ∈ rch 6 T0 s i 6) || decide (T0 a b ≤ n)) = true) (h3 : n = 0 ∨ ∃ a b, (a < 6 ∧ b < 6) ∧ a ∈ rch 6 T0 s i 6 ∧ b ∉ rch 6 T0 s i 6 ∧ T0 a b = n) : Mx (w h0 l0) (Out h0 l0 s i) n := by
  refine ⟨h1, fun a b ⟨ha, hb, e1, e2⟩ => ?_, h3.imp (fun e => e) fun ⟨a, b, ⟨ha, hb⟩, e1, e2, e3⟩ => ⟨a, b, ⟨ha, hb, (rc0 hi).2 e1, fun e => e2 ((rc0 hi).1 e)⟩, (w0 a ha b hb).trans e3⟩⟩
  rw [w0 a ha b hb]
  have h4 := List.all_eq_true.1 (List.all_eq_true.1 h2 a (List.mem_range.2 ha)) b (List.mem_range.2 hb)
  have e1 := (rc0 hi).1 e1
  have e2 : b ∉ rch 6 T0 s i 6 := fun e => e2 ((rc0 hi).2 e)
  simpa [e1, e2] using h4
theorem apart1 : Apart' h0 l0 1 501 ([1, 2, 3], 500, 0) := by
  refine .inr (.inr (.inr ⟨c0, rfl, 0, 500, by decide, rfl, mx0 (by decide) (by decide) (by decide +kernel) (.inr ⟨1, 3, by decide, by decide +kernel, by decide +kernel, by decide +kernel⟩), ?_⟩))
  unfold grp
  rw [gr0 (by decide)]
  decide +kernel
theorem apart6 : Apart' h0 l0 6 1 ([6], 0, 0) := by
  refine .inr (.inr (.inr ⟨c0, rfl, 5, 0, by decide, rfl, mx0 (by decide) (by decide) (by decide +kernel) (.inl rfl), ?_⟩))
  unfold grp
  rw [gr0 (by decide)]
  decide +kernel
theorem apart7 : Apart' h0 l0 7 1 ([], 0, 6) := .inr (.inl ⟨c0, by decide, rfl⟩)
def caE (s : Int) : List Nat := (List.range 6).filter fun k => decide (3 ≤ ((grE s k).length : Int))
def alE (s : Int) : List Nat := (List.range 6).filter fun k => decide (3 ≤ ((grE s k).length : Int)) && decide (idA l0 k ∈ [4, 5])
theorem caught0 (s : Int) : caught h0 l0 s = ((caE s).length : Int) := by
  have : fr (cg h0 l0 s) l0.length = caE s := fr_eq fun i hi => by
    unfold cg
    rw [gr0 hi, decide_eq_true_iff]; rfl
  unfold caught
  rw [this]
theorem alarms0 (s : Int) : alarms h0 l0 [4, 5] s = ((alE s).length : Int) := by
  have : fr (cb h0 l0 [4, 5] s) l0.length = alE s := fr_eq fun i hi => by
    unfold cb cg
    rw [gr0 hi, Bool.and_eq_true, decide_eq_true_iff, decide_eq_true_iff]; rfl
  unfold alarms
  rw [this]
theorem tune0 : Tune' h0 l0 [4, 5] 0 (501, 3, 0, 0) := by
  refine .inr (.inr ⟨c0, ⟨by decide, by decide, by decide, by decide⟩, 501, ⟨by decide, by decide, ?_, fun t h1 h2 => ?_⟩, ?_⟩)
  · rw [alarms0]; decide +kernel
  · have h3 := alarms_mono (h := h0) (l := l0) (good := [4, 5]) (s := t) (t := 500) (by omega)
    have h4 : alarms h0 l0 [4, 5] 500 = 2 := by rw [alarms0]; decide +kernel
    omega
  · rw [alarms0, caught0]; decide +kernel
theorem tune1 : Tune' h0 l0 [5, 4] 0 (0, 0, 0, 2) := .inr (.inl ⟨c0, fun e => absurd e.1 (by decide), rfl⟩)
theorem why0 : Why h0 l0 2 5 ([⟨2, 4, 500⟩, ⟨4, 5, 1000⟩], 0) := by
  have e13 : Ed 6 (w h0 l0) 500 1 3 := ⟨by decide, by decide, by decide +kernel⟩
  have e34 : Ed 6 (w h0 l0) 500 3 4 := ⟨by decide, by decide, by decide +kernel⟩
  refine .inr (.inr ⟨c0, 1, 4, by decide +kernel, by decide, by decide, by decide, .inr ⟨500, [1, 3, 4], ⟨by decide, by decide, (rc0 (by decide)).2 (by decide +kernel), fun e => absurd ((rc0 (by decide)).1 e) (by decide +kernel)⟩, ⟨2, ⟨⟨3, ⟨1, rfl, e13⟩, e34⟩, fun m hm h => ?_⟩, .cons (.cons .nil e13) e34, fun q hq => ?_⟩, by decide +kernel⟩⟩)
  · have h1 := (mem_rch (N := 6) (W := T0) (s := 500) (i := 1) (by decide) (n := 1) (k := 4)).2 ⟨m, by omega, (wk_tab (N := 6) w0).1 h⟩
    exact absurd h1 (by decide +kernel)
  · have key : ∀ m q, Pw 6 (w h0 l0) 500 1 m q 4 → m = 2 → val 6 [1, 3, 4] ≤ val 6 q := by
      intro m q hq hm
      cases hq with
      | cons h1 e1 =>
        cases h1 with
        | nil => omega
        | cons h2 e2 =>
          cases h2 with
          | cons _ _ => omega
          | nil =>
            rename_i j
            have hj : 3 ≤ j := by
              have hall : ∀ j, j < 6 → 500 ≤ T0 j 4 → 3 ≤ j := by decide +kernel
              exact hall j e1.1 (by rw [← w0 j e1.1 4 (by decide)]; exact e1.2.2)
            simp [val]
            omega
    exact key 2 q hq rfl
theorem why1 : Why h0 l0 1 6 ([], 6) := .inr (.inr ⟨c0, 0, 5, by decide +kernel, by decide, by decide, by decide, .inl ⟨fun e => absurd ((rc0 (by decide)).1 e) (by decide +kernel), rfl⟩⟩)
theorem hl0 : l0.length ≤ 30 := by decide
theorem hp0 : ∀ f ∈ l0, f.parts.length ≤ 20 := by decide
end S
open S
theorem r_weighs {a b want : Int} (h : Weight h0 l0 a b = (want, 0)) : Ret (P.law08_weighs a b want) (· = true) := by
  unfold P.law08_weighs P.law08_hunt P.law08_filings
  refine Ret.bind <| Ret.ok <| Ret.bind <| Ret.ok <| Ret.bindM (r_ringWeight h0 (l := l0) hl0 hp0 a b) ?_
  rintro _ rfl
  rw [h]
  exact Ret.bind <| Ret.condT rfl <| Ret.ok <| Ret.ok (decide_eq_true rfl)
theorem r_rings {s : Int} {want : List (List Int)} (hs : inB 1 6001 s = true) (h : rgsE s = want) : Ret (P.law08_rings s want) (· = true) := by
  have hR : Rings h0 l0 s = (want, 0) := by unfold Rings; rw [if_pos c0, if_pos hs, rgs0, h]
  have hlen := Rings_len h0 hl0 s
  rw [hR] at hlen
  unfold P.law08_rings P.law08_hunt P.law08_filings
  refine Ret.bind <| Ret.ok <| Ret.bind <| Ret.ok <| Ret.bindM (r_ringRings h0 (l := l0) hl0 hp0 s) ?_
  rintro _ rfl
  rw [hR]
  refine Ret.bindM (Q' := fun b => b = true) (Ret.condT rfl <| Ret.bindM (r_SameLists (by have := hlen.1; dsimp only at this; omega) fun x hx => by have := hlen.2 x hx; omega) fun b hb => Ret.ok (by rw [hb]; exact decide_eq_true rfl)) fun b hb => Ret.ok hb
theorem r_alive : Ret P.law08_alive (· = true) := by
  unfold P.law08_alive P.law08_hunt P.law08_filings
  refine Ret.bind <| Ret.ok <| Ret.bind <| Ret.ok <| Ret.bindM (r_ringWhy h0 (l := l0) hl0 hp0 2 5) fun x hx => ?_
  obtain rfl := Why.uniq hx why0
  refine Ret.bind <| Ret.ok <| Ret.bind <| Ret.ok <| Ret.bindM (r_ringApart h0 (l := l0) hl0 hp0 1 501) fun y hy => ?_
  obtain rfl := Apart'.uniq hy apart1
  refine Ret.bind <| Ret.ok <| Ret.bind <| Ret.ok <| Ret.bindM (r_ringTune h0 (l := l0) hl0 hp0 (good := [4, 5]) (by decide) 0) fun z hz => ?_
  obtain rfl := Tune'.uniq hz tune0
  refine Ret.bindM (Q' := fun b => b = true) ?_ fun b hb => Ret.ok hb
  refine Ret.bindM (r_weighs (by decide +kernel)) fun _ hb => Ret.condT hb ?_
  refine Ret.bindM (r_weighs (by decide +kernel)) fun _ hb => Ret.condT hb ?_
  refine Ret.bindM (r_weighs (by decide +kernel)) fun _ hb => Ret.condT hb ?_
  refine Ret.bindM (r_rings (by decide) (by decide +kernel)) fun _ hb => Ret.condT hb ?_
  refine Ret.bindM (r_rings (by decide) (by decide +kernel)) fun _ hb => Ret.condT hb ?_
  refine Ret.condT rfl <| Ret.bindM (r_SameTies (by decide)) fun _ hb => Ret.condT (by rw [hb]; decide) ?_
  refine Ret.condT rfl <| Ret.bindM (r_SameInts (by decide)) fun _ hb => Ret.condT (by rw [hb]; decide) ?_
  exact Ret.condT rfl <| Ret.condT rfl <| Ret.condT rfl <| Ret.condT rfl <| Ret.ok rfl
theorem p_RingExamples : P.law08_RingExamples = some true := by
  apply Ret.yes
  unfold P.law08_RingExamples
  refine Ret.bindM (Q' := fun b => b = false) ?_ fun b hb => Ret.condF hb ?_
  · refine Ret.bindM r_alive fun _ hb => Ret.condF (by rw [hb]; rfl) ?_
    refine Ret.bindM (r_weighs (by decide +kernel)) fun _ hb => Ret.condF (by rw [hb]; rfl) ?_
    exact Ret.bindM (r_rings (by decide) (by decide +kernel)) fun _ hb => Ret.ok (by rw [hb]; rfl)
  unfold P.law08_hunt P.law08_filings
  refine Ret.bind <| Ret.ok <| Ret.bind <| Ret.ok <| Ret.bindM (r_ringApart h0 (l := l0) hl0 hp0 6 1) fun y hy => ?_
  obtain rfl := Apart'.uniq hy apart6
  refine Ret.bindM (Q' := fun b => b = false) (Ret.condF rfl <| Ret.bindM (r_SameInts (by decide)) fun _ hb => Ret.condF (by rw [hb]; decide) <| Ret.ok rfl) fun b hb => Ret.condF hb ?_
  refine Ret.bind <| Ret.ok <| Ret.bind <| Ret.ok <| Ret.bind <| Ret.ixo (i := 1) rfl <| Ret.bind <| Ret.seto (i := 1) (by decide) ?_
  refine Ret.bind <| Ret.ok <| Ret.bind <| Ret.ok <| Ret.bindM (r_ringWeight h0 (l := l0) hl0 hp0 1 7) fun y1 hy1 => ?_
  rw [show Weight h0 l0 1 7 = (0, 6) by decide +kernel] at hy1; subst hy1
  refine Ret.bind <| Ret.ok <| Ret.bind <| Ret.ok <| Ret.bindM (r_ringWeight h0 (l := l0) hl0 hp0 1 1) fun y1 hy1 => ?_
  rw [show Weight h0 l0 1 1 = (0, 2) by decide +kernel] at hy1; subst hy1
  refine Ret.bind <| Ret.ok <| Ret.bind <| Ret.ok <| Ret.bindM (r_ringRings h0 (l := l0) hl0 hp0 0) fun y1 hy1 => ?_
  rw [show Rings h0 l0 0 = ([], 2) by unfold Rings; rw [if_pos c0, if_neg (by decide)]] at hy1; subst hy1
  refine Ret.bind <| Ret.ok <| Ret.bind <| Ret.ok <| Ret.bindM (r_ringWhy h0 (l := l0) hl0 hp0 1 6) fun x hx => ?_
  obtain rfl := Why.uniq hx why1
  refine Ret.bind <| Ret.ok <| Ret.bind <| Ret.ok <| Ret.bindM (r_ringApart h0 (l := l0) hl0 hp0 7 1) fun y hy => ?_
  obtain rfl := Apart'.uniq hy apart7
  refine Ret.bind <| Ret.ok <| Ret.bind <| Ret.ok <| Ret.bindM (r_ringTune h0 (l := l0) hl0 hp0 (good := [5, 4]) (by decide) 0) fun z hz => ?_
  obtain rfl := Tune'.uniq hz tune1
  refine Ret.bindM (Q' := fun b => b = true) ?_ fun b hb => Ret.ok hb
  refine Ret.condT rfl <| Ret.condT rfl <| Ret.condT rfl <| Ret.condT rfl <| Ret.condT rfl <| Ret.condT rfl <| Ret.bind <| Ret.ok <| Ret.bindM (r_ringCheck hl0 hp0) fun c hc => ?_
  refine Ret.condT (by rw [hc]; decide +kernel) <| Ret.bind <| Ret.ok <| Ret.bindM (r_ringCheck (by decide) (by decide)) fun c hc => Ret.ok ?_
  rw [hc]
  decide +kernel
end Go.Proofs.Ytdbogmmdogjhpaa
set_option maxRecDepth 20000
set_option maxHeartbeats 1000000
set_option linter.unusedVariables false
set_option linter.unusedSimpArgs false
namespace Go.Proofs.Ytdbogmmdogjhpaa
open Go Go.Sx
open Go.Rx (ixA)
namespace S
def mbr (xss : List (List Int)) (n : Int) : Int × Bool := if xss.findIdx (fun x => decide (n ∈ x)) < xss.length then ((xss.findIdx (fun x => decide (n ∈ x)) : Nat), true) else (0, false)
theorem mbr_at {xss : List (List Int)} {n : Int} {i : Nat} (hi : i < xss.length) (h : n ∈ xss[i]) (hb : ∀ j (hj : j < i), n ∉ xss[j]'(by omega)) : mbr xss n = ((i : Int), true) := by
  have : xss.findIdx (fun x => decide (n ∈ x)) = i := (List.findIdx_eq hi).2 ⟨decide_eq_true h, fun j hj => by simpa using hb j hj⟩
  unfold mbr
  rw [this, if_pos hi]
theorem mbr_no {xss : List (List Int)} {n : Int} (h : ∀ x ∈ xss, n ∉ x) : mbr xss n = (0, false) := by
  unfold mbr
  rw [if_neg]
  rw [List.findIdx_lt_length]
  rintro ⟨x, hx, e⟩
  exact h x hx (by simpa using e)
theorem mbr_yes {xss : List (List Int)} {n : Int} {x : List Int} (hx : x ∈ xss) (h : n ∈ x) : ∃ i : Nat, mbr xss n = ((i : Int), true) ∧ ∃ hi : i < xss.length, n ∈ xss[i] := by
  have hi : xss.findIdx (fun x => decide (n ∈ x)) < xss.length := List.findIdx_lt_length.2 ⟨x, hx, decide_eq_true h⟩
  refine ⟨_, by unfold mbr; rw [if_pos hi], hi, ?_⟩
  have := List.findIdx_getElem (p := fun x => decide (n ∈ x)) (w := hi)
  simpa using this
theorem mbr_same {xss : List (List Int)} {n m : Int} (h : ∀ x ∈ xss, (n ∈ x ↔ m ∈ x)) : mbr xss n = mbr xss m := by
  have : xss.findIdx (fun x => decide (n ∈ x)) = xss.findIdx (fun x => decide (m ∈ x)) := by
    have key : ∀ xss : List (List Int), (∀ x ∈ xss, (n ∈ x ↔ m ∈ x)) → xss.findIdx (fun x => decide (n ∈ x)) = xss.findIdx (fun x => decide (m ∈ x)) := by
      intro xss
      induction xss with
      | nil => exact fun _ => rfl
      | cons x xs ih =>
        intro h
        rw [List.findIdx_cons, List.findIdx_cons, ih fun y hy => h y (List.mem_cons_of_mem _ hy)]
        have := h x (List.mem_cons_self ..)
        by_cases e : n ∈ x
        · simp [e, this.1 e]
        · simp [e, mt this.2 e]
    exact key xss h
  unfold mbr
  rw [this]
end S
open S
theorem r_member {xss : List (List Int)} {n : Int} (h1 : xss.length ≤ 1000) (h2 : ∀ x ∈ xss, x.length ≤ 1000) : Ret (P.law08_member xss n) (· = mbr xss n) := by
  unfold P.law08_member
  refine Ret.bindM (Q' := fun r => (r = Sum.inl () ∧ ∀ x ∈ xss, n ∉ x) ∨ r = Sum.inr (mbr xss n) ) (Ret.upto xss.length (fun t (i : Int) => i = t ∧ ∀ j (hj : j < xss.length), j < t → n ∉ xss[j]) ⟨rfl, fun j hj h0 => by omega⟩ ?_ ?_) ?_
  · rintro t ht i ⟨rfl, hI⟩
    have hl := h2 _ (List.getElem_mem ht)
    refine Ret.condT (lt_cast ht) <| Ret.bind <| ixR ht ?_
    refine Ret.bindM (Q' := fun r => (r = Sum.inl () ∧ n ∉ xss[t]) ∨ (r = Sum.inr ((t : Int), true) ∧ n ∈ xss[t])) (Ret.upto xss[t].length (fun m (i : Int) => i = m ∧ n ∉ xss[t].take m) ⟨rfl, by simp⟩ ?_ ?_) ?_
    · rintro m hm i ⟨rfl, hI2⟩
      refine Ret.condT (lt_cast hm) <| Ret.bind <| ixR hm <| Ret.cond (fun hc => Ret.done (.inr ⟨rfl, ?_⟩)) (fun hc => Ret.bind <| Ret.chk (by omega) <| Ret.next ⟨rfl, nt hm hI2 (of_decide_eq_false hc)⟩)
      exact (of_decide_eq_true hc) ▸ List.getElem_mem hm
    · rintro i ⟨rfl, hI2⟩
      rw [List.take_length] at hI2
      exact Ret.condF not_lt_cast <| Ret.done (.inl ⟨rfl, hI2⟩)
    · rintro r (⟨rfl, hr⟩ | ⟨rfl, hr⟩)
      · refine Ret.elimL <| Ret.bind <| Ret.chk (by omega) <| Ret.next ⟨rfl, fun j hj hjt => ?_⟩
        by_cases e : j = t
        · subst e; exact hr
        · exact hI j hj (by omega)
      · exact Ret.elimR <| Ret.done (.inr (by rw [mbr_at ht hr fun j hj => hI j (by omega) hj]))
  · rintro i ⟨rfl, hI⟩
    refine Ret.condF not_lt_cast <| Ret.done (.inl ⟨rfl, fun x hx => ?_⟩)
    obtain ⟨j, hj, rfl⟩ := List.mem_iff_getElem.1 hx
    exact hI j hj hj
  · rintro r (⟨rfl, hr⟩ | rfl)
    · exact Ret.elimL <| Ret.ok (mbr_no hr).symm
    · exact Ret.elimR <| Ret.ok rfl
/-- One list. -/
theorem r_member1 {x : List Int} {n : Int} (h : x.length ≤ 1000) : Ret (P.law08_member [x] n) (fun r => r.2 = decide (n ∈ x)) := by
  refine (r_member (by simp) (by simpa using h)).mono fun r hr => ?_
  rw [hr]
  by_cases e : n ∈ x
  · rw [mbr_at (i := 0) (by simp) e fun j hj => by omega, decide_eq_true e]
  · rw [mbr_no (by simpa using e), decide_eq_false e]
theorem r_ready (h : Hunt) (l : List Filing) (s : Int) : Ret (P.law08_ready h l s) fun b => b = true → Vd h l ∧ 1 ≤ s ∧ s ≤ 6001 := by
  unfold P.law08_ready
  refine Ret.bindM (Q' := fun b => b = true → Vd h l ∧ 1 ≤ s ∧ s ≤ 6001) (Ret.bindM (r_Great l) fun g hg => Ret.cond (fun h1 => ?_) (fun _ => Ret.ok (fun e => by cases e))) fun b hb => Ret.ok hb
  have h1 : great l = false := by rw [← hg]; simpa using h1
  obtain ⟨hl, hp⟩ := great_out h1
  refine Ret.bindM (r_refCheck hl hp) fun c hc => Ret.cond (fun h2 => Ret.cond (fun h3 => Ret.ok (fun e => ?_)) (fun _ => Ret.ok (fun e => by cases e))) (fun _ => Ret.ok (fun e => by cases e))
  exact ⟨check_iff.1 (hc ▸ of_decide_eq_true h2), of_decide_eq_true h3, of_decide_eq_true e⟩
section
variable {h : Hunt} {l : List Filing} (v : Vd h l)
include v
theorem idA_mem {k : Nat} (hk' : k < l.length) : idA l k ∈ ids l := by
  unfold idA
  rw [id_at hk']
  exact List.mem_map_of_mem (List.getElem_mem hk')
theorem id_idA {k : Nat} (hk' : k < l.length) : l[k].id = idA l k := (id_at hk').symm
theorem grp_eq {s : Int} {i k : Nat} (e : RC h l s i k) : grp h l s i = grp h l s k := by unfold grp; rw [gr_same v e]
theorem mem_rgs {s : Int} {x : List Int} : x ∈ rgs h l s ↔ ∃ i, i < l.length ∧ Head h l s i ∧ x = grp h l s i := by
  unfold rgs
  rw [List.mem_map]
  exact ⟨fun ⟨i, h1, h2⟩ => ⟨i, (mem_fr.1 h1).1, (mem_fr.1 h1).2, h2.symm⟩, fun ⟨i, h1, h2, h3⟩ => ⟨i, mem_fr.2 ⟨h1, h2⟩, h3.symm⟩⟩
theorem in_ring {s : Int} {k : Nat} (hk' : k < l.length) {x : List Int} (hx : x ∈ rgs h l s) (he : idA l k ∈ x) : x = grp h l s k ∧ cg h l s k := by
  obtain ⟨i, h1, h2, rfl⟩ := (mem_rgs v).1 hx
  have h3 := (mem_grp v hk').1 he
  refine ⟨grp_eq v h3, ?_⟩
  unfold cg
  rw [← gr_same v h3]
  exact h2.2
theorem ring_of {s : Int} {k : Nat} (hk' : k < l.length) (hc : cg h l s k) : grp h l s k ∈ rgs h l s := by
  obtain ⟨i, hi, hmin⟩ := least_ex (p := fun i => RC h l s i k) ⟨k, .refl⟩
  have hil : i < l.length := (hi.sym v.wcomm).lt hk'
  refine (mem_rgs v).2 ⟨i, hil, ⟨fun j hj e => hmin j hj ((e.sym v.wcomm).trans hi), ?_⟩, (grp_eq v hi).symm⟩
  rw [gr_same v hi]
  exact hc
theorem mb_in {s : Int} {k : Nat} (hk' : k < l.length) (hc : cg h l s k) : ∃ i : Nat, mbr (rgs h l s) (idA l k) = ((i : Int), true) ∧ ∃ hi : i < (rgs h l s).length, (rgs h l s)[i] = grp h l s k := by
  obtain ⟨i, h1, hi, h2⟩ := mbr_yes (ring_of v hk' hc) ((mem_grp v hk').2 .refl)
  exact ⟨i, h1, hi, (in_ring v hk' (List.getElem_mem hi) h2).1⟩
theorem mb_same {s : Int} {i k : Nat} (hi : i < l.length) (hk' : k < l.length) (e : RC h l s i k) : mbr (rgs h l s) (idA l i) = mbr (rgs h l s) (idA l k) := mbr_same fun x hx => by
  obtain ⟨j, h1, h2, rfl⟩ := (mem_rgs v).1 hx
  rw [mem_grp v hi, mem_grp v hk']
  exact ⟨fun x => x.trans e, fun x => x.trans (e.sym v.wcomm)⟩
theorem head_grp {s : Int} {i : Nat} (hi : i < l.length) (hh : Head h l s i) : (grp h l s i)[0]? = some (idA l i) := by
  obtain ⟨a, r, h1, h2, h3⟩ := gr_head v (s := s) hi
  unfold grp
  rw [h1, List.map_cons, ← h3.2 hh.1]
  rfl
theorem rgs_at {s : Int} {t : Nat} (ht : t < (rgs h l s).length) : ∃ i, i < l.length ∧ Head h l s i ∧ (rgs h l s)[t] = grp h l s i ∧ (fr (Head h l s) l.length)[t]? = some i := by
  have e : (rgs h l s)[t]? = ((fr (Head h l s) l.length)[t]?).map (grp h l s) := by unfold rgs; rw [List.getElem?_map]
  rw [List.getElem?_eq_getElem ht] at e
  cases hf : (fr (Head h l s) l.length)[t]? with
  | none => rw [hf] at e; cases e
  | some i =>
    rw [hf] at e
    have hm := mem_fr.1 (List.mem_of_getElem? hf)
    exact ⟨i, hm.1, hm.2, Option.some.inj e, rfl⟩
theorem grp_rise {s : Int} {i : Nat} : (grp h l s i).Pairwise (· < ·) := by
  unfold grp
  refine List.pairwise_map.2 ((fr_lt (p := RC h l s i) (n := l.length)).imp_of_mem fun {a b} ha hb hab => idA_lt v hab (mem_fr.1 hb).1)
theorem grp_mem {s : Int} {i : Nat} {z : Int} (hz : z ∈ grp h l s i) : ∃ k, k < l.length ∧ RC h l s i k ∧ z = idA l k := by
  unfold grp at hz
  obtain ⟨k, h1, h2⟩ := List.mem_map.1 hz
  exact ⟨k, (mem_gr.1 h1).1, (mem_gr.1 h1).2, h2.symm⟩
theorem flat_nodup (s : Int) : (rgs h l s).flatten.Nodup := by
  obtain ⟨G, h1, h2⟩ := rgs_flat v s
  rw [h1]
  have hG : G.Nodup := h2.nodup_iff.2 fr_nodup
  refine List.pairwise_map.2 (hG.imp_of_mem fun {a b} ha hb hne e => hne (idA_inj v (mem_fr.1 (h2.mem_iff.1 ha)).1 (mem_fr.1 (h2.mem_iff.1 hb)).1 e))
/-- The first round of RingNested: one strength's rings. -/
theorem r_neat (s : Int) {Q : Unit ⊕ Bool → Prop} (q : Q (.inl ())) : Ret (loopM (S := (Int × (FMap Int Bool))) (R := (Unit ⊕ Bool)) (fun (x42, x43) => cond (decide (x42 < ((rgs h l s).length : Int))) (Option.bind (ixo (rgs h l s) x42) fun y44 => Option.bind (α := (Bool)) (cond (decide ((y44.length : Int) < h.size)) (some true) (cond (decide (0 < x42)) (Option.bind (chk .i64 (x42 - 1)) fun n45 => Option.bind (ixo (rgs h l s) n45) fun y46 => cond (decide (0 < (y46.length : Int))) (Option.bind (ixo y44 0) fun y47 => Option.bind (chk .i64 (x42 - 1)) fun n48 => Option.bind (ixo (rgs h l s) n48) fun y49 => Option.bind (ixo y49 0) fun y50 => some (decide (y47 ≤ y50))) (some false)) (some false))) ((fun x51 => cond (x51) (some (Sum.inr (Sum.inr false))) (Option.bind (loopM (S := (Int × (FMap Int Bool))) (R := (((FMap Int Bool)) ⊕ Bool)) (fun (x52, x53) => cond (decide (x52 < (y44.length : Int))) (Option.bind (ixo y44 x52) fun y54 => Option.bind (α := (Bool)) (cond (((x53 y54).getD false)) (some true) (Option.bind (P.ref08_At l y54) fun r55 => cond (decide (r55 < 0)) (some true) (cond (decide (0 < x52)) (Option.bind (chk .i64 (x52 - 1)) fun n56 => Option.bind (ixo y44 n56) fun y57 => some (decide (y54 ≤ y57))) (some false)))) ((fun x58 => cond (x58) (some (Sum.inr (Sum.inr false))) (Option.bind (chk .i64 (x52 + 1)) fun n59 => some (Sum.inl (n59, (fput x53 y54 true))))))) (some (Sum.inr (Sum.inl x53)))) ((0 : Int), x43)) ((Sum.elim (fun x60 => Option.bind (chk .i64 (x42 + 1)) fun n61 => some (Sum.inl (n61, x60))) (fun r62 => some (Sum.inr (Sum.inr r62))))))))) (some (Sum.inr (Sum.inl ())))) ((0 : Int), (fnone : (FMap Int Bool)))) Q := by
  have hlen := v.len
  have hrl := heads_len (h := h) (l := l) s
  refine Ret.upto (rgs h l s).length (fun t (st : Int × FMap Int Bool) => st.1 = t ∧ ∀ z, (st.2 z).getD false = true ↔ z ∈ ((rgs h l s).take t).flatten) ⟨rfl, fun z => by simp [fnone]⟩ ?_ ?_
  · rintro t ht ⟨_, m⟩ ⟨rfl, hm⟩
    obtain ⟨i, hi, hh, hx, hfi⟩ := rgs_at v ht
    have hgl := grp_len v (s := s) (i := i)
    dsimp only at hm ⊢
    refine Ret.condT (lt_cast ht) <| Ret.bind <| ixR ht ?_
    refine Ret.bindM (Q' := fun b => b = false) ?_ ?_
    · refine Ret.condF (decide_eq_false ?_) <| Ret.cond (fun h0 => ?_) (fun _ => Ret.ok rfl)
      · rw [hx]
        unfold grp
        rw [List.length_map]
        have := hh.2
        omega
      · have h0 : 0 < t := by have := of_decide_eq_true h0; omega
        obtain ⟨j, hj, hhj, hxj, hfj⟩ := rgs_at v (s := s) (t := t - 1) (by omega)
        have hji : j < i := by
          obtain ⟨p1, p2⟩ := List.getElem?_eq_some_iff.1 hfj
          obtain ⟨p3, p4⟩ := List.getElem?_eq_some_iff.1 hfi
          have := List.pairwise_iff_getElem.1 (fr_lt (p := Head h l s) (n := l.length)) (t - 1) t p1 p3 (by omega)
          omega
        refine Ret.bind <| Ret.chk (by omega) <| Ret.bind <| ixP ht h0 <| Ret.cond (fun _ => ?_) (fun _ => Ret.ok rfl)
        refine Ret.bind <| Ret.ixo (i := 0) (by rw [hx]; exact head_grp v hi hh) <| Ret.bind <| Ret.chk (by omega) <| Ret.bind <| ixP ht h0 <| Ret.bind <| Ret.ixo (i := 0) (by rw [hxj]; exact head_grp v hj hhj) <| Ret.ok (decide_eq_false ?_)
        have := idA_lt v hji hi
        omega
    · rintro _ rfl
      refine Ret.condF rfl ?_
      have hnd := flat_nodup v s
      refine Ret.bindM (Q' := fun r => ∃ m', r = Sum.inl m' ∧ ∀ z, (m' z).getD false = true ↔ z ∈ ((rgs h l s).take (t + 1)).flatten) (Ret.upto (rgs h l s)[t].length (fun k (st : Int × FMap Int Bool) => st.1 = k ∧ ∀ z, (st.2 z).getD false = true ↔ z ∈ ((rgs h l s).take t).flatten ++ (rgs h l s)[t].take k) ⟨rfl, fun z => by simpa using hm z⟩ ?_ ?_) ?_
      · rintro k hk' ⟨_, m⟩ ⟨rfl, hm⟩
        have hmem : (rgs h l s)[t][k] ∈ grp h l s i := hx ▸ List.getElem_mem hk'
        obtain ⟨a, ha1, ha2, ha3⟩ := grp_mem v hmem
        have hkl : (rgs h l s)[t].length ≤ l.length := by rw [hx]; exact hgl
        dsimp only at hm ⊢
        refine Ret.condT (lt_cast hk') <| Ret.bind <| ixR hk' ?_
        refine Ret.bindM (Q' := fun b => b = false) ?_ ?_
        · refine Ret.condF ?_ <| Ret.bindM (r_At (v := (rgs h l s)[t][k]) (by omega)) fun r hr => Ret.condF ?_ <| Ret.cond (fun h0 => ?_) (fun _ => Ret.ok rfl)
          · cases hb : (m (rgs h l s)[t][k]).getD false with
            | false => rfl
            | true =>
              have h1 := (hm _).1 hb
              have e : (rgs h l s).flatten = (((rgs h l s).take t).flatten ++ (rgs h l s)[t].take k) ++ ((rgs h l s)[t].drop k ++ ((rgs h l s).drop (t + 1)).flatten) := by
                have e1 : (rgs h l s) = (rgs h l s).take t ++ ((rgs h l s)[t] :: (rgs h l s).drop (t + 1)) := by rw [← List.drop_eq_getElem_cons ht, List.take_append_drop]
                have e2 : (rgs h l s)[t] = (rgs h l s)[t].take k ++ (rgs h l s)[t].drop k := (List.take_append_drop ..).symm
                calc (rgs h l s).flatten = ((rgs h l s).take t ++ ((rgs h l s)[t] :: (rgs h l s).drop (t + 1))).flatten := congrArg List.flatten e1
                  _ = ((rgs h l s).take t).flatten ++ ((rgs h l s)[t] ++ ((rgs h l s).drop (t + 1)).flatten) := by rw [List.flatten_append, List.flatten_cons]
                  _ = ((rgs h l s).take t).flatten ++ (((rgs h l s)[t].take k ++ (rgs h l s)[t].drop k) ++ ((rgs h l s).drop (t + 1)).flatten) := by rw [List.take_append_drop]
                  _ = _ := by simp only [List.append_assoc]
              rw [e] at hnd
              have h2 := (List.nodup_append.1 hnd).2.2 _ h1 ((rgs h l s)[t][k]) (List.mem_append_left _ (by rw [List.drop_eq_getElem_cons hk']; exact List.mem_cons_self ..))
              exact absurd rfl h2
          · rw [hr, ha3]
            obtain ⟨k2, h1, _⟩ := idx_at (idA_mem v ha1)
            rw [show idx (l.map (·.id)) (idA l a) = idx (ids l) (idA l a) from rfl, h1]
            exact decide_eq_false (by omega)
          · have h0 : 0 < k := by have := of_decide_eq_true h0; omega
            refine Ret.bind <| Ret.chk (by omega) <| Ret.bind <| ixP hk' h0 <| Ret.ok (decide_eq_false ?_)
            have hr : (rgs h l s)[t].Pairwise (· < ·) := by rw [hx]; exact grp_rise v
            have := List.pairwise_iff_getElem.1 hr (k - 1) k (by omega) hk' (by omega)
            omega
        · rintro _ rfl
          refine Ret.condF rfl <| Ret.bind <| Ret.chk (by omega) <| Ret.next ⟨rfl, fun z => ?_⟩
          dsimp only
          rw [take_succ hk', ← List.append_assoc, List.mem_append, List.mem_singleton]
          unfold fput
          by_cases e : z = (rgs h l s)[t][k]
          · rw [if_pos e]; simp [e]
          · rw [if_neg e, hm z]; simp [e]
      · rintro ⟨_, m⟩ ⟨rfl, hm⟩
        dsimp only at hm ⊢
        refine Ret.condF not_lt_cast <| Ret.done ⟨m, rfl, fun z => ?_⟩
        rw [hm z, List.take_length, take_flat ht]
      · rintro _ ⟨m', rfl, hm'⟩
        exact Ret.elimL <| Ret.bind <| Ret.chk (by omega) <| Ret.next ⟨rfl, hm'⟩
  · rintro ⟨_, m⟩ ⟨rfl, hm⟩
    exact Ret.condF not_lt_cast <| Ret.done q
end
end Go.Proofs.Ytdbogmmdogjhpaa
set_option maxRecDepth 20000
set_option maxHeartbeats 1000000
set_option linter.unusedVariables false
set_option linter.unusedSimpArgs false
namespace Go.Proofs.Ytdbogmmdogjhpaa
open Go Go.Sx
open Go.Rx (ixA)
open S
section
variable {h : Hunt} {l : List Filing} (v : Vd h l)
include v
theorem vd_pl : ∀ f ∈ l, f.parts.length ≤ 20 := fun f hf => by have := v.prl f hf; omega
theorem vd_len : l.length ≤ 30 := by have := v.len; omega
theorem Rings_ok {s : Int} (h1 : 1 ≤ s) (h2 : s ≤ 6001) : Rings h l s = (rgs h l s, 0) := by
  unfold Rings
  rw [if_pos (check_iff.2 v), if_pos (inB_iff.2 ⟨h1, h2⟩)]
theorem r_rgs {s : Int} (h1 : 1 ≤ s) (h2 : s ≤ 6001) : Ret (P.ring_Rings h l s) (· = (rgs h l s, 0)) := (r_ringRings h (vd_len v) (vd_pl v) s).mono fun r hr => by rw [hr, Rings_ok v h1 h2]
theorem r_mbr {s : Int} {n : Int} : Ret (P.law08_member (rgs h l s) n) (· = mbr (rgs h l s) n) := by
  have hlen := v.len
  have h1 := heads_len (h := h) (l := l) s
  refine r_member (by omega) fun x hx => ?_
  obtain ⟨i, _, _, rfl⟩ := (mem_rgs v).1 hx
  have := grp_len v (s := s) (i := i)
  omega
/-- A ring, member by member. -/
theorem ring_get {s : Int} {t : Nat} (ht : t < (rgs h l s).length) : ∃ i, i < l.length ∧ Head h l s i ∧ (rgs h l s)[t] = grp h l s i ∧ (rgs h l s)[t][0]? = some (idA l i) ∧ (rgs h l s)[t].length ≤ 24 ∧ ∀ k (hk' : k < (rgs h l s)[t].length), ∃ a, a < l.length ∧ RC h l s i a ∧ (rgs h l s)[t][k] = idA l a := by
  have hlen := v.len
  obtain ⟨i, hi, hh, hx, _⟩ := rgs_at v ht
  refine ⟨i, hi, hh, hx, by rw [hx]; exact head_grp v hi hh, ?_, fun k hk' => ?_⟩
  · rw [hx]
    have := grp_len v (s := s) (i := i)
    omega
  · have hm : (rgs h l s)[t][k] ∈ grp h l s i := hx ▸ List.getElem_mem hk'
    exact grp_mem v hm
theorem nested0 {s t : Int} (hst : s ≤ t) {Q : Unit ⊕ Bool → Prop} (q : Q (.inl ())) : Ret (loopM (S := (Int)) (R := (Unit ⊕ Bool)) (fun x79 => cond (decide (x79 < ((rgs h l t).length : Int))) (Option.bind (ixo (rgs h l t) x79) fun y80 => Option.bind (loopM (S := (Int)) (R := (Unit ⊕ Bool)) (fun x81 => cond (decide (x81 < (y80.length : Int))) (Option.bind (ixo y80 x81) fun y82 => Option.bind (P.law08_member (rgs h l s) y82) fun (r83, r84) => Option.bind (ixo y80 0) fun y85 => Option.bind (P.law08_member (rgs h l s) y85) fun (r86, r87) => Option.bind (α := (Bool)) (cond ((!r84)) (some true) (cond ((!r87)) (some true) (cond ((!decide (r83 = r86))) (some true) (Option.bind (ixo (rgs h l s) r83) fun y88 => some (decide ((y88.length : Int) < x81)))))) ((fun x89 => cond (x89) (some (Sum.inr (Sum.inr false))) (Option.bind (chk .i64 (x81 + 1)) fun n90 => some (Sum.inl n90))))) (some (Sum.inr (Sum.inl ())))) (0 : Int)) ((Sum.elim (fun _ => Option.bind (chk .i64 (x79 + 1)) fun n91 => some (Sum.inl n91)) (fun r92 => some (Sum.inr (Sum.inr r92)))))) (some (Sum.inr (Sum.inl ())))) (0 : Int)) Q := by
  have hlen := v.len
  have hrl := heads_len (h := h) (l := l) t
  refine Ret.upto (rgs h l t).length (fun n (x : Int) => x = n) rfl ?_ ?_
  · rintro n hn _ rfl
    obtain ⟨i, hi, hh, hx, h0, hl, hall⟩ := ring_get v hn
    refine Ret.condT (lt_cast hn) <| Ret.bind <| ixR hn ?_
    have hci : cg h l s i := cg_mono hst hh.2
    obtain ⟨j, e1, hj, e2⟩ := mb_in v hi hci
    have hgl : (grp h l t i).length ≤ (grp h l s i).length := by
      unfold grp
      rw [List.length_map, List.length_map]
      exact gr_mono hst i
    refine Ret.bindM (Q' := fun r => r = Sum.inl ()) (Ret.upto (rgs h l t)[n].length (fun k (x : Int) => x = k) rfl ?_ ?_) ?_
    · rintro k hk' _ rfl
      obtain ⟨a, ha1, ha2, ha3⟩ := hall k hk'
      refine Ret.condT (lt_cast hk') <| Ret.bind <| ixR hk' <| Ret.bindM (r_mbr v) fun r1 hr1 => Ret.bind <| Ret.ixo (i := 0) h0 <| Ret.bindM (r_mbr v) fun r2 hr2 => ?_
      rw [ha3, ← mb_same v hi ha1 (ha2.mono hst), e1] at hr1
      rw [e1] at hr2
      subst hr1 hr2
      refine Ret.bindM (Q' := fun b => b = false) (Ret.condF rfl <| Ret.condF rfl <| Ret.condF (by simp) <| Ret.bind <| ixR hj <| Ret.ok (decide_eq_false ?_)) ?_
      · rw [e2]
        rw [hx] at hk'
        omega
      · rintro _ rfl
        exact Ret.condF rfl <| Ret.bind <| Ret.chk (by omega) <| Ret.next rfl
    · rintro _ rfl
      exact Ret.condF not_lt_cast <| Ret.done rfl
    · rintro _ rfl
      exact Ret.elimL <| Ret.bind <| Ret.chk (by omega) <| Ret.next rfl
  · rintro _ rfl
    exact Ret.condF not_lt_cast <| Ret.done q
end
theorem p_RingNested (h : Hunt) (l : List Filing) (strength more : Int) (b3 : InK .u16 more) : P.law08_RingNested h l strength more = some true := by
  have b3 := InK.u16.1 b3
  apply Ret.yes
  unfold P.law08_RingNested
  refine Ret.bindM r_alive ?_
  rintro _ rfl
  refine Ret.bindM (Q' := fun b => b = false → Vd h l ∧ 1 ≤ strength ∧ strength ≤ 6001) (Ret.bindM (r_ready h l strength) fun b hb => Ret.cond (fun _ => Ret.ok (fun e => by cases e)) (fun h1 => Ret.ok fun _ => hb (by simpa using h1))) fun b hb => ?_
  refine Ret.cond (fun _ => Ret.ok rfl) (fun hg => ?_)
  obtain ⟨v, hs1, hs2⟩ := hb hg
  refine Ret.bind <| Ret.chk (by omega) <| Ret.bind <| Ret.chk (by omega) <| Ret.bind <| Ret.chk (by omega) <| Ret.bind <| Ret.remO (by omega) (by omega) ?_
  have hm1 := Int.emod_nonneg more (show (6001 - strength + 1 : Int) ≠ 0 by omega)
  have hm2 := Int.emod_lt_of_pos more (show (0 : Int) < 6001 - strength + 1 by omega)
  generalize more % (6001 - strength + 1) = d at hm1 hm2
  refine Ret.bind <| Ret.chk (by omega) <| Ret.bindM (r_rgs v hs1 hs2) ?_
  rintro _ rfl
  refine Ret.bindM (r_rgs v (by omega) (by omega)) ?_
  rintro _ rfl
  refine Ret.bindM (Q' := fun b => b = false) (Ret.condF rfl <| Ret.ok rfl) fun b hb => Ret.condF hb ?_
  refine Ret.bindM (Q' := fun r => r = Sum.inl ()) (Ret.upto 2 (fun n (x : Int) => x = n) rfl ?_ ?_) ?_
  · rintro n hn _ rfl
    refine Ret.condT (decide_eq_true (by simp; omega)) ?_
    have key : Ret (ixo [rgs h l strength, rgs h l (strength + d)] (n : Int)) (fun y => ∃ s, y = rgs h l s) := by
      have h01 : n = 0 ∨ n = 1 := by omega
      rcases h01 with rfl | rfl
      · exact Ret.ixo rfl ⟨_, rfl⟩
      · exact Ret.ixo rfl ⟨_, rfl⟩
    refine Ret.bindM key ?_
    rintro _ ⟨s, rfl⟩
    refine Ret.bind <| r_neat v s <| Ret.elimL <| Ret.bind <| Ret.chk (by omega) <| Ret.next ?_
    simp
  · rintro _ rfl
    exact Ret.condF (by simp) <| Ret.done rfl
  · rintro _ rfl
    refine Ret.elimL ?_
    exact Ret.bind <| nested0 v (by omega) <| Ret.elimL <| Ret.ok rfl
end Go.Proofs.Ytdbogmmdogjhpaa
