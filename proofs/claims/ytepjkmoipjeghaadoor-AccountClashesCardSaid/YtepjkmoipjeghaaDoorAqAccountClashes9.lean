/-
  Part AccountClashes 9 of the texts that the statement's proof stands on: what memory holds, how code is walked, what the functions reckon. In the order in which they build.
-/

import Derived.Test.YtepjkmoipjeghaaDoorAqAccountClashes8
set_option linter.unusedVariables false
set_option linter.unusedSectionVars false
namespace Go.Proofs.YtepjkmoipjeghaaDoor
open Go Go.Sx
namespace S
theorem Lists.putL {κ α : Type} [DecidableEq κ] {f : FMap κ α} {l : List (κ × α)} (h : Lists f l) (a : κ) (z : α) : ∃ l', Lists (fput f a z) l' ∧ l'.length ≤ l.length + 1 := by
  by_cases c : ∃ x ∈ l, x.1 = a
  · obtain ⟨⟨a', y⟩, hx, rfl⟩ := c
    obtain ⟨j, hj⟩ := List.getElem?_of_mem hx
    exact ⟨_, h.set hj z, by simp⟩
  · exact ⟨_, h.push z fun x hx e => c ⟨x, hx, e⟩, by simp⟩
theorem two_le {κ α : Type} {f : FMap κ α} {l : List (κ × α)} (h : Lists f l) {a b : κ} {y z : α} (ha : f a = some y) (hb : f b = some z) (hab : a ≠ b) : 2 ≤ flen f := by
  rw [flen_of h]
  have h1 := (h.2 a y).2 ha
  have h2 := (h.2 b z).2 hb
  match l, h1, h2 with
  | [], h1, _ => cases h1
  | [x], h1, h2 =>
    rw [List.mem_singleton] at h1 h2
    exact absurd (congrArg Prod.fst (h1.trans h2.symm)) hab
  | _ :: _ :: _, _, _ => simp only [List.length_cons]; omega
theorem two_len {g : List Report} {a b : Report} (ha : a ∈ g) (hb : b ∈ g) (h : a ≠ b) : 2 ≤ g.length := by
  match g, ha, hb with
  | [], ha, _ => cases ha
  | [x], ha, hb => rw [List.mem_singleton] at ha hb; exact absurd (ha.trans hb.symm) h
  | _ :: _ :: _, _, _ => simp
/-- What the law finds of one clash. -/
structure Seen (g : List Report) (n : Nat) (m : FMap Int Bool) (v : FMap Arr83 Bool) : Prop where
  lm : ∃ l, Lists m l ∧ l.length ≤ n
  lv : ∃ l, Lists v l ∧ l.length ≤ n
  m : ∀ y ∈ g, y.id ∈ (sid g).take n → m y.source = some true
  v : ∀ y ∈ g, y.id ∈ (sid g).take n → v ⟨y.about, y.cents⟩ = some true
theorem p_AccountClashes {l : List Report} (hin : ∀ r ∈ l, InR r) {id day known : Int} (_ : InK .i64 id) (_ : InK .i64 day) (_ : InK .i64 known) : P.law03_AccountClashes l id day known = some true := by
  apply Ret.yes
  unfold P.law03_AccountClashes
  refine Ret.bind (Ret.val alive_is (Ret.bind (Ret.bind (r_ready hin (by simp) (Ret.condT rfl (Ret.ok (Ret.condT rfl (Ret.ok rfl)))) fun c hid hd => Ret.condF rfl (Ret.ok (Ret.condF rfl ?_))))))
  have hl := (chk0 c).1
  have hknown := hd known (by simp)
  have hdy := hd day (by simp)
  have hday : day ≤ 100000 := by
    have : 0 ≤ day ∧ day ≤ 100000 := by simpa [inB] using hdy
    exact this.2
  refine Ret.bind (r_Clashes1 hin c (in2 hid hd) fun F0 hF0 => Ret.bind (r_State1 hin c (in3 hid hd) fun F hF => Ret.bind (r_Standing1 hin c hknown fun F' hF' => ?_)))
  obtain rfl := hF'.uniq hF fun _ => Iff.rfl
  obtain rfl := hF'.uniq hF0 fun _ => Iff.rfl
  have fo := hF.fo
  have hFlen := fo.len
  dsimp only
  refine Ret.bind (Ret.condF rfl (Ret.condF rfl (Ret.ok (Ret.condF rfl ?_))))
  have fGC : FO (F'.filter (ofA id 100000)) := fo.filter _
  have fGS : FO (F'.filter (ofA id day)) := fo.filter _
  have hCl := (few_cl fGC).1
  have hsort := clF_sorted fGC
  have hof := fun x hx => clF_of fGC (x := x) hx
  have hop := fun {k} (hk : 1 ≤ k ∧ k ≤ 7) (h4 : k ≠ 4) {b t Y} (hb : b = _) (hT : Tells b (fk (F'.filter (ofA id day)) k) t Y) ht => open_clash (id := id) fo hday hk h4 hb hT ht
  have hpc := paid_clash (id := id) fo hday
  have memG : ∀ r, r ∈ F'.filter (ofA id 100000) → r ∈ F' ∧ r.account = id := fun r hr => by
    have := List.mem_filter.1 hr
    refine ⟨this.1, ?_⟩
    have := this.2
    unfold ofA at this
    simp at this
    exact this.1
  generalize clF (F'.filter (ofA id 100000)) = C at hCl hsort hof hop hpc ⊢
  -- each clash
  refine Ret.bind (Ret.mono (Q := fun j : Unit ⊕ Bool => j = .inl ()) (Ret.loop (fun t : Int => ∃ n : Nat, t = n ∧ n ≤ C.length) (fun t => C.length - t.toNat) ⟨0, rfl, Nat.zero_le _⟩ ?_) fun j hj => ?_)
  · rintro _ ⟨i, rfl, hi⟩
    refine Ret.cond (fun h => ?_) fun h => Ret.done rfl
    have hlt : i < C.length := by have := of_decide_eq_true h; omega
    refine Ret.bind (Ret.ixo (List.getElem?_eq_getElem hlt) ?_)
    obtain ⟨hkd, g, fg, hg, hby, h4, hn4⟩ := hof C[i] (List.getElem_mem hlt)
    have hgl : (sid g).length = g.length := sid_len g
    have h60 := fg.len
    have two : 2 ≤ g.length := by
      by_cases e : C[i].kind = 4
      · obtain ⟨a, ha, b, hb, hab⟩ := h4 e
        exact two_len ha hb fun e => hab (by rw [e])
      · have := hn4 e
        refine Classical.byContradiction fun hl => this fun a ha b hb => ?_
        have : a = b := Classical.byContradiction fun h => hl (two_len ha hb h)
        subst this; exact ⟨rfl, rfl⟩
    rw [hby]
    have rest : Ret (cond (decide (((sid g).length : Int) < 2)) (some true) (cond (decide (C[i].kind < 1)) (some true) (some (decide (7 < C[i].kind))))) fun b => b = false := Ret.condF (decide_eq_false (by omega)) (Ret.condF (decide_eq_false (by omega)) (Ret.ok (decide_eq_false (by omega))))
    refine Ret.bind (Ret.mono (Q := fun b => b = false) (Ret.cond (fun hp => ?_) fun _ => rest) fun x hx => ?_)
    · obtain ⟨m, rfl⟩ : ∃ m : Nat, i = m + 1 := ⟨i - 1, by have := of_decide_eq_true hp; omega⟩
      have hlt' : m < C.length := by omega
      have hc := List.pairwise_iff_getElem.1 hsort m (m + 1) hlt' hlt (by omega)
      unfold clt at hc
      rw [show ((m + 1 : Nat) : Int) - 1 = (m : Int) by omega]
      refine Ret.bind (Ret.chk (by omega) (Ret.bind (Ret.ixo (List.getElem?_eq_getElem hlt') (Ret.condF (decide_eq_false (by omega)) (Ret.bind (Ret.chk (by omega) (Ret.bind (Ret.ixo (List.getElem?_eq_getElem hlt') (Ret.cond (fun he => ?_) fun _ => rest)))))))))
      have he := of_decide_eq_true he
      exact Ret.bind (Ret.chk (by omega) (Ret.bind (Ret.ixo (List.getElem?_eq_getElem hlt') (Ret.condF (decide_eq_false (by omega)) rest))))
    subst hx
    refine Ret.condF rfl ?_
    have hgF : ∀ y ∈ g, y ∈ F' := fun y hy => (memG y (hg y hy).1).1
    refine Ret.bind (Ret.mono (Q := fun j : ((FMap Int Bool) × (FMap Arr83 Bool)) ⊕ Bool => ∃ m v, j = .inl (m, v) ∧ Seen g (sid g).length m v) (Ret.loop (fun t : Int × (FMap Int Bool) × (FMap Arr83 Bool) => ∃ n : Nat, t.1 = n ∧ n ≤ (sid g).length ∧ Seen g n t.2.1 t.2.2) (fun t => (sid g).length - t.1.toNat) ⟨0, rfl, Nat.zero_le _, ⟨⟨[], Lists.nil, Nat.le_refl _⟩, ⟨[], Lists.nil, Nat.le_refl _⟩, (fun y _ h => by simp at h), (fun y _ h => by simp at h)⟩⟩ ?_) fun j hj => ?_)
    · rintro ⟨_, m, v⟩ ⟨n, rfl, hn, hS⟩
      dsimp only at hS ⊢
      refine Ret.cond (fun h => ?_) fun h => ?_
      · have hltn : n < (sid g).length := by have := of_decide_eq_true h; omega
        refine Ret.bind (Ret.ixo (List.getElem?_eq_getElem hltn) (Ret.bind (r_findY fo hgF (List.getElem_mem hltn) fun r hr hre => ?_)))
        obtain ⟨g1, g2, g3⟩ := hg r hr
        have g4 := (memG r g1).2
        dsimp only
        refine Ret.bind (Ret.mono (Q := fun b => b = false) (Ret.condF rfl (Ret.condF (by simp [g2]) (Ret.condF (by simp [g4]) (Ret.condF (decide_eq_false (by omega)) (Ret.cond (fun h => ?_) fun _ => Ret.ok rfl))))) fun x hx => ?_)
        · obtain ⟨m, rfl⟩ : ∃ m : Nat, n = m + 1 := ⟨n - 1, by have := of_decide_eq_true h; omega⟩
          rw [show ((m + 1 : Nat) : Int) - 1 = (m : Int) by omega]
          refine Ret.bind (Ret.chk (by omega) (Ret.bind (Ret.ixo (List.getElem?_eq_getElem (show m < (sid g).length by omega)) (Ret.ok (decide_eq_false ?_)))))
          have := sid_lt fg.nd hltn
          omega
        subst hx
        refine Ret.condF rfl (Ret.bind (Ret.chk (by omega) (Ret.next ⟨⟨n + 1, by dsimp only; omega, hltn, ?_⟩, by dsimp only; omega⟩)))
        obtain ⟨⟨lm, hlm, hlm'⟩, ⟨lv, hlv, hlv'⟩, hm, hv⟩ := hS
        obtain ⟨lm2, k1, k2⟩ := Lists.putL hlm r.source true
        obtain ⟨lv2, k3, k4⟩ := Lists.putL hlv (⟨r.about, r.cents⟩ : Arr83) true
        have new : ∀ y ∈ g, y.id ∈ (sid g).take (n + 1) → y.id ∈ (sid g).take n ∨ y = r := fun y hy ht => by
          rw [take_mem' hltn] at ht
          rcases ht with ht | ht
          · exact .inl ht
          · exact .inr (ids_one fg.nd hy hr (by rw [ht, hre]))
        refine ⟨⟨lm2, k1, by omega⟩, ⟨lv2, k3, by omega⟩, fun y hy ht => ?_, fun y hy ht => ?_⟩
        · dsimp only
          unfold fput
          split
          · rfl
          · rename_i hne
            rcases new y hy ht with h | rfl
            · exact hm y hy h
            · exact absurd rfl hne
        · dsimp only
          unfold fput
          split
          · rfl
          · rename_i hne
            rcases new y hy ht with h | rfl
            · exact hv y hy h
            · exact absurd rfl hne
      · have hge : n = (sid g).length := by have := of_decide_eq_false h; omega
        subst hge
        exact Ret.done ⟨m, v, rfl, hS⟩
    · obtain ⟨m, v, rfl, ⟨lm, hlm, hlm'⟩, ⟨lv, hlv, hlv'⟩, hm, hv⟩ := hj
      refine Ret.elimL ?_
      have allm : ∀ y ∈ g, m y.source = some true := fun y hy => hm y hy (by rw [List.take_length]; exact sid_mem.2 ⟨y, hy, rfl⟩)
      have allv : ∀ y ∈ g, v ⟨y.about, y.cents⟩ = some true := fun y hy => hv y hy (by rw [List.take_length]; exact sid_mem.2 ⟨y, hy, rfl⟩)
      have fm : 0 ≤ flen m ∧ flen m ≤ 60 := by rw [flen_of hlm]; omega
      have fv : 0 ≤ flen v ∧ flen v ≤ 60 := by rw [flen_of hlv]; omega
      dsimp only
      have nx : Ret (Option.bind (chk .i64 ((i : Int) + 1)) fun n264 => some (Sum.inl n264 : Int ⊕ (Unit ⊕ Bool))) (Nxt (fun s' : Int => (∃ n : Nat, s' = n ∧ n ≤ C.length) ∧ C.length - s'.toNat < C.length - (i : Int).toNat) fun j => j = .inl ()) := Ret.bind (Ret.chk (by omega) (Ret.next ⟨⟨i + 1, by omega, by omega⟩, by omega⟩))
      refine Ret.bind (Ret.cond (fun h => ?_) fun h => ?_)
      · have e := of_decide_eq_true h
        obtain ⟨a, ha, b, hb, hab⟩ := h4 e
        have h2 := two_le hlm (allm a ha) (allm b hb) hab
        exact Ret.bind (Ret.chk (by omega) (Ret.condF (decide_eq_false (by omega)) (Ret.condF (by simp [e]) (Ret.ok (Ret.condF rfl nx)))))
      · have e := of_decide_eq_false h
        have h2 : 2 ≤ flen v := by
          refine Classical.byContradiction fun hlt2 => hn4 e fun a ha b hb => ?_
          refine Classical.byContradiction fun hne => hlt2 (two_le hlv (allv a ha) (allv b hb) fun h => hne ?_)
          injection h with h1 h2
          exact ⟨h2, h1⟩
        exact Ret.condT (by simp [e]) (Ret.bind (Ret.chk (by omega) (Ret.ok (Ret.condF (decide_eq_false (by omega)) nx))))
  subst hj
  refine Ret.elimL ?_
  -- what is open clashes
  refine Ret.bind (Ret.val (th_st (F'.filter (ofA id day))) ?_)
  dsimp only
  rw [show ((kinds.map (tk (F'.filter (ofA id day)))).length : Int) = 6 from rfl]
  refine Ret.bind (Ret.mono (Q := fun j : Unit ⊕ Bool => j = .inl ()) (Ret.loop (fun t : Int => ∃ n : Nat, t = n ∧ n ≤ 6) (fun t => 6 - t.toNat) ⟨0, rfl, Nat.zero_le _⟩ ?_) fun j hj => ?_)
  · rintro _ ⟨i, rfl, hi⟩
    refine Ret.cond (fun h => ?_) fun h => Ret.done rfl
    have hlt : i < 6 := by have := of_decide_eq_true h; omega
    have hi6 : i < kinds.length := hlt
    obtain ⟨kd, hkd⟩ : ∃ kd, kinds[i]? = some kd := ⟨_, List.getElem?_eq_getElem hi6⟩
    have hkk : (1 ≤ kd ∧ kd ≤ 7) ∧ kd ≠ 4 := by
      have := List.mem_of_getElem? hkd
      unfold kinds at this
      simp at this
      omega
    have at_ : (kinds.map (tk (F'.filter (ofA id day))))[i]? = some (tk (F'.filter (ofA id day)) kd) := by rw [List.getElem?_map, hkd]; rfl
    have nx : Ret (Option.bind (chk .i64 ((i : Int) + 1)) fun n345 => some (Sum.inl n345 : Int ⊕ (Unit ⊕ Bool))) (Nxt (fun s' : Int => (∃ n : Nat, s' = n ∧ n ≤ 6) ∧ 6 - s'.toNat < 6 - (i : Int).toNat) fun j => j = .inl ()) := Ret.bind (Ret.chk (by omega) (Ret.next ⟨⟨i + 1, by omega, by omega⟩, by omega⟩))
    refine Ret.bind (Ret.bind (Ret.ixo at_ (Ret.cond (fun _ => Ret.ok (Ret.elimL nx)) fun hk => ?_)))
    have hk : (tk (F'.filter (ofA id day)) kd).known = 1 := by simpa using hk
    obtain ⟨Y, hT⟩ := tells fGS kd
    obtain ⟨x, hx, hxk, hxa⟩ := hop hkk.1 hkk.2 rfl hT hk
    refine Ret.bind (Ret.mono (Q := fun b => b = true) (Ret.loop (fun t : Bool × Int => ∃ n : Nat, t.2 = n ∧ n ≤ C.length ∧ (x ∈ C.take n → t.1 = true)) (fun t => C.length - t.2.toNat) ⟨0, rfl, Nat.zero_le _, fun h => by simp at h⟩ ?_) fun b hb => by subst hb; exact Ret.condF rfl (Ret.ok (Ret.elimL nx)))
    rintro ⟨b, _⟩ ⟨n, rfl, hn, hb⟩
    dsimp only at hb ⊢
    refine Ret.cond (fun h => ?_) fun h => ?_
    · have hltn : n < C.length := by have := of_decide_eq_true h; omega
      have go : ∀ b' : Bool, (x ∈ C.take (n + 1) → b' = true) → Ret (Option.bind (chk .i64 ((n : Int) + 1)) fun n341 => some (Sum.inl (b', n341) : (Bool × Int) ⊕ Bool)) (Nxt (fun s' : Bool × Int => (∃ n : Nat, s'.2 = n ∧ n ≤ C.length ∧ (x ∈ C.take n → s'.1 = true)) ∧ C.length - s'.2.toNat < C.length - (n : Int).toNat) fun b => b = true) := fun b' h => Ret.bind (Ret.chk (by omega) (Ret.next ⟨⟨n + 1, by dsimp only; omega, hltn, h⟩, by dsimp only; omega⟩))
      have tk' : ¬ (C[n].kind = kd ∧ C[n].about ≤ day) → x ∈ C.take (n + 1) → x ∈ C.take n := fun h hx => by
        rw [take_snoc hltn, List.mem_append, List.mem_singleton] at hx
        rcases hx with hx | hx
        · exact hx
        · subst hx; exact absurd ⟨hxk, hxa⟩ h
      refine Ret.bind (Ret.ixo (List.getElem?_eq_getElem hltn) (Ret.bind (Ret.cond (fun hbt => Ret.ok (go true fun _ => rfl)) fun hbf => Ret.bind (Ret.ixo hkd (Ret.cond (fun h1 => Ret.ok ?_) fun h1 => Ret.ok (go false fun hx => ?_))))))
      · cases h2 : decide (C[n].about ≤ day) with
        | true => exact go true fun _ => rfl
        | false => exact go false fun hx => by have := hb (tk' (fun h => of_decide_eq_false h2 h.2) hx); rw [hbf] at this; cases this
      · have := hb (tk' (fun h => of_decide_eq_false h1 h.1) hx)
        rw [hbf] at this; cases this
    · have hge : n = C.length := by have := of_decide_eq_false h; omega
      subst hge
      rw [List.take_length] at hb
      exact Ret.done (hb hx)
  subst hj
  refine Ret.elimL (Ret.cond (fun _ => Ret.ok rfl) fun hne => ?_)
  obtain ⟨x, hx, hxk, hxa⟩ := hpc (of_decide_eq_false hne)
  refine Ret.bind (Ret.mono (Q := fun j : Unit ⊕ Bool => j = .inr true) (Ret.loop (fun t : Int => ∃ n : Nat, t = n ∧ n ≤ C.length ∧ x ∉ C.take n) (fun t => C.length - t.toNat) ⟨0, rfl, Nat.zero_le _, by simp⟩ ?_) fun j hj => by subst hj; exact Ret.elimR (Ret.ok rfl))
  rintro _ ⟨n, rfl, hn, hno⟩
  refine Ret.cond (fun h => ?_) fun h => ?_
  · have hltn : n < C.length := by have := of_decide_eq_true h; omega
    have go : ¬ (C[n].kind = 4 ∧ C[n].about ≤ day) → Ret (Option.bind (chk .i64 ((n : Int) + 1)) fun n373 => some (Sum.inl n373 : Int ⊕ (Unit ⊕ Bool))) (Nxt (fun s' : Int => (∃ n : Nat, s' = n ∧ n ≤ C.length ∧ x ∉ C.take n) ∧ C.length - s'.toNat < C.length - (n : Int).toNat) fun j => j = .inr true) := fun hk => Ret.bind (Ret.chk (by omega) (Ret.next ⟨⟨n + 1, by omega, hltn, fun hx' => by
      rw [take_snoc hltn, List.mem_append, List.mem_singleton] at hx'
      rcases hx' with hx' | rfl
      · exact hno hx'
      · exact hk ⟨hxk, hxa⟩⟩, by omega⟩))
    refine Ret.bind (Ret.ixo (List.getElem?_eq_getElem hltn) (Ret.bind (Ret.cond (fun h1 => Ret.ok ?_) fun h1 => Ret.ok (Ret.condF rfl (go fun h => of_decide_eq_false h1 h.1)))))
    exact Ret.cond (fun _ => Ret.done rfl) fun h2 => go fun h => of_decide_eq_false h2 h.2
  · have hge : n = C.length := by have := of_decide_eq_false h; omega
    subst hge
    rw [List.take_length] at hno
    exact absurd hx hno
end S
end Go.Proofs.YtepjkmoipjeghaaDoor
