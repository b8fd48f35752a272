/-
  Part 4 of the texts that the statement's proof stands on: what memory holds, how code is walked, what the functions reckon. In the order in which they build.
-/

import Derived.Test.YtdbogmmdogjhpaaRd3
set_option linter.unusedVariables false
set_option linter.unusedSectionVars false
namespace Go.Rx
open Go Go.Sx Go.RowKit
variable [Trk] [Sg] [Sf] {P : Program} [Se P]
section
variable {ρ : Nat → Value} {R : Nat → Option AR} {M : List Nat} {w : World}
theorem wd_len : ∀ (s : SV) {u : Value} {n : Nat}, wd s = n + 1 → Ok ρ R M w s u → u.cells.size = n + 1 := by
  intro s u n hn h
  cases hs : one s with
  | true =>
    rw [Ok.cells1 s hs h]
    cases s <;> first | exact hn | cases hs | cases hn
  | false =>
    cases s <;> first | cases hs; done | cases hn; done | skip
    rename_i k m x
    obtain ⟨cs, h1, h2 | h2⟩ := h
    · obtain ⟨_, rfl⟩ := h2
      obtain ⟨_, h3, h4, _⟩ := h1
      have hn : m = n + 1 := hn
      show (List.toArray cs).size = _
      rw [h4]; simp [h3, hn]
    · cases h2.1
theorem cellAt_ok : ∀ (l : List SV) (o : Nat) {s : SV} {vs : List Value}, cellAt l o = some s → OkL ρ R M w l vs → ∃ u c r, Ok ρ R M w s u ∧ u.cells = List.toArray c ∧ vs.drop o = c ++ r
  | [], _, _, _, h, _ => (noS h).elim
  | s :: l, 0, s', vs, h, ⟨u, c, r, h1, h2, h3, h4⟩ => by
    have h : some s = some s' := h
    cases h
    exact ⟨u, c, r, h2, h3, by rw [h1]; rfl⟩
  | s :: l, o + 1, s', vs, h, ⟨u, c, r, h1, h2, h3, h4⟩ => by
    simp only [cellAt] at h
    cases hw : wd s with
    | zero => rw [hw] at h; exact (noS h).elim
    | succ n =>
      rw [hw] at h
      have hl := wd_len s hw h2
      rw [h3] at hl
      have hl : c.length = n + 1 := by simpa using hl
      cases hb : Nat.ble n o with
      | false => simp only [hb, cond_false] at h; exact (noS h).elim
      | true =>
        simp only [hb, cond_true] at h
        have hle := Nat.le_of_ble_eq_true hb
        obtain ⟨u', c', r', h5, h6, h7⟩ := cellAt_ok l (o - n) h h4
        refine ⟨u', c', r', h5, h6, ?_⟩
        rw [h1, List.drop_append, List.drop_eq_nil_of_le (by omega), List.nil_append, hl, show o + 1 - (n + 1) = o - n by omega, h7]
theorem widths_len : ∀ (l : List SV) {m : Nat} {vs : List Value}, widths l = some m → OkL ρ R M w l vs → vs.length = m
  | [], m, vs, h, h1 => by
    have h1 : vs = [] := h1
    have h : some 0 = some m := h
    cases h; rw [h1]; rfl
  | s :: l, m, vs, h, ⟨u, c, r, h1, h2, h3, h4⟩ => by
    simp only [widths] at h
    cases hw : wd s with
    | zero => rw [hw] at h; exact (noS h).elim
    | succ n =>
      rw [hw] at h
      have hl := wd_len s hw h2
      rw [h3] at hl
      have hl : c.length = n + 1 := by simpa using hl
      cases hx : widths l with
      | none => rw [hx] at h; exact (noS h).elim
      | some k =>
        rw [hx] at h
        have h : some (n + 1 + k) = some m := h
        cases h
        rw [h1, List.length_append, hl, widths_len l hx h4]
theorem dropW_ok : ∀ (l : List SV) (o : Nat) {l' : List SV} {vs : List Value}, dropW l o = some l' → OkL ρ R M w l vs → OkL ρ R M w l' (vs.drop o)
  | l, 0, l', vs, h, h1 => by
    have h : some l = some l' := by cases l <;> exact h
    cases h; exact h1
  | [], _ + 1, _, _, h, _ => (noS h).elim
  | s :: l, o + 1, l', vs, h, ⟨u, c, r, h1, h2, h3, h4⟩ => by
    simp only [dropW] at h
    cases hw : wd s with
    | zero => rw [hw] at h; exact (noS h).elim
    | succ n =>
      rw [hw] at h
      have hl := wd_len s hw h2
      rw [h3] at hl
      have hl : c.length = n + 1 := by simpa using hl
      cases hb : Nat.ble n o with
      | false => simp only [hb, cond_false] at h; exact (noS h).elim
      | true =>
        simp only [hb, cond_true] at h
        have hle := Nat.le_of_ble_eq_true hb
        have := dropW_ok l (o - n) h h4
        rw [h1, List.drop_append, List.drop_eq_nil_of_le (by omega), List.nil_append, hl, show o + 1 - (n + 1) = o - n by omega]
        exact this
theorem takeW_ok : ∀ (l : List SV) (o : Nat) {l' : List SV} {vs : List Value}, takeW l o = some l' → OkL ρ R M w l vs → OkL ρ R M w l' (vs.take o) ∧ o ≤ vs.length
  | l, 0, l', vs, h, h1 => by
    have h : some [] = some l' := by cases l <;> exact h
    cases h; exact ⟨by rw [List.take_zero]; exact rfl, Nat.zero_le _⟩
  | [], _ + 1, _, _, h, _ => (noS h).elim
  | s :: l, o + 1, l', vs, h, ⟨u, c, r, h1, h2, h3, h4⟩ => by
    simp only [takeW] at h
    cases hw : wd s with
    | zero => rw [hw] at h; exact (noS h).elim
    | succ n =>
      rw [hw] at h
      have hl := wd_len s hw h2
      rw [h3] at hl
      have hl : c.length = n + 1 := by simpa using hl
      cases hb : Nat.ble n o with
      | false => simp only [hb] at h; exact (noS h).elim
      | true =>
        simp only [hb] at h
        have hle := Nat.le_of_ble_eq_true hb
        cases hx : takeW l (o - n) with
        | none => simp only [hx] at h; exact (noS h).elim
        | some r' =>
          simp only [hx] at h
          have h := Option.some.inj h
          subst h
          obtain ⟨h5, h6⟩ := takeW_ok l (o - n) hx h4
          refine ⟨⟨u, c, r.take (o - n), ?_, h2, h3, h5⟩, ?_⟩
          · rw [h1, List.take_append, List.take_of_length_le (by omega), hl, show o + 1 - (n + 1) = o - n by omega]
          · rw [h1, List.length_append]; omega
theorem isAg_agg : ∀ (s : SV) {u : Value}, isAg s = true → Ok ρ R M w s u → u = .agg u.cells
  | .ary _ _ _, u, _, h => by
    obtain ⟨cs, h1, h2 | h2⟩ := h
    · obtain ⟨_, rfl⟩ := h2; rfl
    · cases h2.1
  | .str _ _, u, _, h => by
    obtain ⟨cs, h1, h2 | h2⟩ := h
    · obtain ⟨_, rfl⟩ := h2; rfl
    · cases h2.1
  | .agg _, u, _, h => by obtain ⟨vs, rfl, _⟩ := h; rfl
  | .int _ _, _, h, _ | .bool _, _, h, _ | .dat _ _, _, h, _ | .own _, _, h, _ | .ptr _ _, _, h, _ | .ep _ _ _ _ _, _, h, _ | .rp _ _, _, h, _ | .fv _ _ _, _, h, _ | .fn _ _, _, h, _ | .nilS, _, h, _ | .np _ _, _, h, _ | .it _ _, _, h, _ | .raw _, _, h, _ | .ap _ _ _ _, _, h, _ | .undef, _, h, _ | .dead, _, h, _ | .tup _, _, h, _ => by cases h
/-- What a load finds. -/
theorem loadC_ok {G : Gx} [Sl (P := P)] {t o : Nat} {v s : SV} {u : Value} (hc : loadC G t o v = some s) (h : Ok ρ R M w v u) :
    (lk G.tb.ag t = some 0 ∧ ∃ x, u.cells.toList[o]? = some x ∧ Ok ρ R M w s x) ∨ ∃ n cs, lk G.tb.ag t = some (n + 1) ∧ cs.length = n ∧ (∀ j y, cs[j]? = some y → u.cells.toList[o + j]? = some y) ∧ Ok ρ R M w s (.agg (List.toArray cs)) := by
  have hk := Ok.cellsOf v h
  unfold loadC at hc
  cases ha : lk G.tb.ag t with
  | none => rw [ha] at hc; exact (noS hc).elim
  | some a =>
    rw [ha] at hc
    cases a with
    | zero =>
      simp only at hc
      cases hx : cellAt (Rx.cellsOf v) o with
      | none => rw [hx] at hc; exact (noS hc).elim
      | some s' =>
        rw [hx] at hc
        simp only at hc
        cases ho : one s' with
        | false => rw [ho] at hc; exact (noS hc).elim
        | true =>
          rw [ho] at hc
          have hc := Option.some.inj hc
          subst hc
          obtain ⟨x, c, r, h1, h2, h3⟩ := cellAt_ok _ o hx hk
          rw [Ok.cells1 s' ho h1] at h2
          have h2 : [x] = c := by simpa using congrArg Array.toList h2
          subst h2
          refine .inl ⟨rfl, x, ?_, h1⟩
          have := congrArg (fun l => l[0]?) h3
          simpa using this
    | succ n =>
      simp only at hc
      cases hw : widths (Rx.cellsOf v) with
      | none => rw [hw] at hc; exact (noS hc).elim
      | some m =>
        rw [hw] at hc
        simp only at hc
        have hlen := widths_len _ hw hk
        have key : (match dropW (Rx.cellsOf v) o with
          | some l => match takeW l n with
            | some r => match lk G.ty t with
              | some (.arr _ _) => match r with
                | [s] => match isAg s with
                  | true => some s
                  | false => none
                | _ => none
              | _ => some (.agg r)
            | none => none
          | none => none) = some s → ∃ n' cs, some (n + 1) = some (n' + 1) ∧ List.length cs = n' ∧ (∀ j y, cs[j]? = some y → u.cells.toList[o + j]? = some y) ∧ Ok ρ R M w s (.agg (List.toArray cs)) := fun hc => by
          cases hd : dropW (Rx.cellsOf v) o with
          | none => rw [hd] at hc; exact (noS hc).elim
          | some l1 =>
            rw [hd] at hc
            simp only at hc
            cases ht : takeW l1 n with
            | none => rw [ht] at hc; exact (noS hc).elim
            | some l2 =>
              rw [ht] at hc
              simp only at hc
              obtain ⟨h1, h2⟩ := takeW_ok l1 n ht (dropW_ok _ o hd hk)
              have hcs : ∀ (j : Nat) (y : Value), ((u.cells.toList.drop o).take n)[j]? = some y → u.cells.toList[o + j]? = some y := fun j y hy => by
                rw [List.getElem?_take] at hy
                split at hy
                · rw [List.getElem?_drop] at hy; exact hy
                · cases hy
              have hln : ((u.cells.toList.drop o).take n).length = n := by rw [List.length_take]; omega
              have fin1 : SV.agg l2 = s → Ok ρ R M w s (.agg (List.toArray ((u.cells.toList.drop o).take n))) := fun e => by subst e; exact ⟨_, rfl, h1⟩
              split at hc
              · cases l2 with
                | nil => exact (noS hc).elim
                | cons s1 r1 => cases r1 with
                  | cons _ _ => exact (noS hc).elim
                  | nil =>
                    simp only at hc
                    cases hg : isAg s1 with
                    | false => rw [hg] at hc; exact (noS hc).elim
                    | true =>
                      rw [hg] at hc
                      have hc := Option.some.inj hc
                      subst hc
                      obtain ⟨x, hx, hok⟩ := OkL.one h1
                      refine ⟨n, _, rfl, hln, hcs, ?_⟩
                      rw [hx, Array.toArray_toList, ← isAg_agg s1 hg hok]; exact hok
              · exact ⟨n, _, rfl, hln, hcs, fin1 (Option.some.inj hc)⟩
        right
        cases hb : Nat.beq m n with
        | false => simp only [hb] at hc; exact key hc
        | true =>
          cases o with
          | succ o => simp only [hb] at hc; exact key hc
          | zero =>
            simp only [hb] at hc
            have hm := Nat.eq_of_beq_eq_true hb
            cases hg : isAg v with
            | false => rw [hg] at hc; exact (noS hc).elim
            | true =>
              rw [hg] at hc
              have hc := Option.some.inj hc
              subst hc
              exact ⟨n, u.cells.toList, rfl, by rw [hlen, hm], fun j y hy => by rw [Nat.zero_add]; exact hy, by rw [Array.toArray_toList, ← isAg_agg v hg h]; exact h⟩
end
end Go.Rx
namespace Go.Rx
open Go Go.Sx Go.RowKit
variable [Trk] [Sg] [Sf] {P : Program} [Se P]
variable [Anch]
section
variable {w0 w w' : World} {Mu M : List Nat} {σ : AS} {L : Env} {S : List Res} {ρ : Nat → Value} {γ : Nat → List Value} {μ : Nat → List Nat} {ι : Nat → Nat}
variable {N : Nat} {ops : Array Oper} {ds : List Deferred} {B : Out} {X : Nat → Out} {Z : List PanicEntry → Out} {d : Nat} {ty : TypeId} {pos : String} {af : Array Edge} {G : Gx}
/-- A load, of whatever lies there. -/
theorem c_loadAt [Sl (P := P)] (h : HS w0 Mu M σ L w S ρ γ μ ι) (hG : GxOk P G) (hN : Nat.blt d N = true) {t b o0 o : Nat} {x : Operand} {v s : SV} {u : Value} {vs : List Value} (hx : Sx.ev L x = some (.pointer (some ⟨b, o0 + o, none⟩))) (hC : Cells w b o0 vs) (hu : u.cells = List.toArray vs) (hv : Ok ρ (fnd σ.res) (mm S M) w v u) (hc : loadC G t o v = some s) :
    Goes P N ops ds L w ⟨some d, .load t x, ty, pos, af, none⟩ w0 Mu M (apps (some d) [.put s] σ) B X Z := by
  have hl : u.cells.toList = vs := by rw [hu]
  rcases loadC_ok hc hv with ⟨ha, y, h1, h2⟩ | ⟨n, cs, ha, h1, h2, h3⟩
  · rw [hl] at h1
    exact s_ld hx (hC o y h1) (AgOk.at0 hG.ag ha) hN (h.fin h2)
  · refine s_lda (cs := cs) hx (fun j y hy => ?_) (AgOk.at1 hG.ag ha).1 h1 (AgOk.at1 hG.ag ha).2 hN (h.fin h3)
    have := h2 j y hy
    rw [hl] at this
    have := hC (o + j) y this
    rwa [← Nat.add_assoc] at this
theorem c_loadR [Sl (P := P)] (h : HS w0 Mu M σ L w S ρ γ μ ι) (hG : GxOk P G) (hN : Nat.blt d N = true) {t o : Nat} {x : Operand} {v s : SV} (hx : evS σ.env x = some (.rp v o)) (hc : loadC G t o v = some s) :
    Goes P N ops ds L w ⟨some d, .load t x, ty, pos, af, none⟩ w0 Mu M (apps (some d) [.put s] σ) B X Z := by
  obtain ⟨u, h1, b, o0, u', vs, rfl, h2, h3, h4⟩ := h.ev hx
  exact c_loadAt h hG hN h1 h2.cells h4 h3 hc
theorem HS.rowAt (h : HS w0 Mu M σ L w S ρ γ μ ι) {i e : Nat} {l : List SV} (hi : fnd σ.res i = some (.row e l)) : ∃ b, ρ i = .pointer (some ⟨b, 0, none⟩) ∧ Row e w b (γ i) ∧ OkL ρ (fnd σ.res) (mm S M) w l (γ i) ∧ S[ι i]? = some (rowR e b (γ i)) := by
  obtain ⟨⟨b, hb⟩, hl⟩ := h.row i _ hi
  have h1 := h.res i _ hi
  have h1 : S[ι i]? = some (rowR e (blk (ρ i)) (γ i)) := h1
  rw [hb] at h1
  exact ⟨b, hb, h.hp.row (ι i) h1, hl, h1⟩
theorem c_loadP [Sl (P := P)] (h : HS w0 Mu M σ L w S ρ γ μ ι) (hG : GxOk P G) (hN : Nat.blt d N = true) {t i o e : Nat} {l : List SV} {x : Operand} {s : SV} (hx : evS σ.env x = some (.ptr i o)) (hi : fnd σ.res i = some (.row e l)) (hc : loadC G t o (.agg l) = some s) :
    Goes P N ops ds L w ⟨some d, .load t x, ty, pos, af, none⟩ w0 Mu M (apps (some d) [.put s] σ) B X Z := by
  obtain ⟨u, h1, b, h2, rfl⟩ := h.ev hx
  obtain ⟨b', h3, h4, h5, _⟩ := h.rowAt hi
  rw [h2] at h3; cases h3
  exact c_loadAt (u := .agg (List.toArray (γ i))) (v := .agg l) h hG hN (by rw [h1, Nat.zero_add]) h4.rd.cells rfl ⟨_, rfl, h5⟩ hc
theorem HS.ownAt (h : HS w0 Mu M σ L w S ρ γ μ ι) {i e : Nat} {p : Bool} {t : Ty} {xs : List (den t)} (hi : fnd σ.res i = some (.own p (.sl e t) xs)) : Sx.Own (enc t) e 0 (mm S M) w (ρ i) xs := h.hp.ownAt (ι i) (h.res i _ hi)
theorem c_loadE [Sl (P := P)] (h : HS w0 Mu M σ L w S ρ γ μ ι) (hG : GxOk P G) (hN : Nat.blt d N = true) {t i o : Nat} {u : Ty} {ix : Int} {z : den u} {x : Operand} {s : SV} (hx : evS σ.env x = some (.ep i u ix (some z) o)) (hc : loadC G t o (ofD u z) = some s) :
    Goes P N ops ds L w ⟨some d, .load t x, ty, pos, af, none⟩ w0 Mu M (apps (some d) [.put s] σ) B X Z := by
  obtain ⟨v, h1, g, n, c, p, e, xs, h2, h3, h4, rfl, h5⟩ := h.ev hx
  have ho := h.ownAt h3
  have hz := (ixo_out (h5 z rfl)).2.2
  obtain ⟨g', cap, cur, h6, h7, _⟩ := ho.at_ (by have := h4.1; have := h4.2; omega)
  rw [h2] at h6; cases h6
  obtain ⟨cs, h8, h9⟩ := ho.cellsAt h7 hz
  obtain ⟨y, h10, h11⟩ := OkD.of_cells h8
  exact c_loadAt h hG hN h1 h9 h11 (ofD_ok u h10) hc
theorem c_fieldAddr (h : HS w0 Mu M σ L w S ρ γ μ ι) (hG : GxOk P G) (hN : Nat.blt d N = true) {t f k u : Nat} {l : List (Nat × Nat)} {x : Operand} {s s' : SV} (hl : lk G.tb.st t = some l) (hf : nth l f = some (k, u)) (hx : evS σ.env x = some s)
    (hs : (∃ v o, s = .rp v o ∧ s' = .rp v (o + k)) ∨ (∃ i o, s = .ptr i o ∧ s' = .ptr i (o + k)) ∨ ∃ i t ix z o, s = .ep i t ix z o ∧ s' = .ep i t ix z (o + k)) :
    Goes P N ops ds L w ⟨some d, .fieldAddr t x f, ty, pos, af, none⟩ w0 Mu M (apps (some d) [.put s'] σ) B X Z := by
  obtain ⟨fields, hu, hfl⟩ := StOk.at hG.st hl
  obtain ⟨fl, m, h1, h2, h3, h4⟩ := hfl.at hf
  rw [Nat.zero_add] at h1
  obtain ⟨v, h5, h6⟩ := h.ev hx
  subst h2; subst h3
  rcases hs with ⟨v, o, rfl, rfl⟩ | ⟨i, o, rfl, rfl⟩ | ⟨i, t', ix, z, o, rfl, rfl⟩
  · obtain ⟨b, o0, u', vs, rfl, h7, h8, h9⟩ := h6
    exact s_fa h5 hu h1 h4 hN (h.fin ⟨b, o0, u', vs, by rw [Nat.add_assoc], h7, h8, h9⟩)
  · obtain ⟨b, h7, rfl⟩ := h6
    exact s_fa h5 hu h1 h4 hN (h.fin ⟨b, h7, rfl⟩)
  · obtain ⟨g, n, c, p, e, xs, h7, h8, h9, rfl, h10⟩ := h6
    exact s_fa h5 hu h1 h4 hN (h.fin ⟨g, n, c, p, e, xs, h7, h8, h9, by rw [Nat.add_assoc], h10⟩)
theorem OkV.nth : ∀ (l : List SV) (i : Nat) {s : SV} {vs : List Value}, Sx.nth l i = some s → OkV ρ (fnd σ.res) (mm S M) w l vs → ∃ v, vs[i]? = some v ∧ Ok ρ (fnd σ.res) (mm S M) w s v
  | [], _, _, _, h, _ => (noS h).elim
  | s :: l, 0, s', vs, h, ⟨u, r, h1, h2, h3⟩ => by
    have h : some s = some s' := h
    cases h
    exact ⟨u, by rw [h1]; rfl, h2⟩
  | s :: l, i + 1, s', vs, h, ⟨u, r, h1, h2, h3⟩ => by
    obtain ⟨v, h4, h5⟩ := OkV.nth l i h h3
    exact ⟨v, by rw [h1]; simpa using h4, h5⟩
theorem c_extract (h : HS w0 Mu M σ L w S ρ γ μ ι) (hN : Nat.blt d N = true) {i : Nat} {l : List SV} {x : Operand} {s : SV} (hx : evS σ.env x = some (.tup l)) (hs : nth l i = some s) :
    Goes P N ops ds L w ⟨some d, .extract x i, ty, pos, af, none⟩ w0 Mu M (apps (some d) [.put s] σ) B X Z := by
  obtain ⟨v, h1, vs, rfl, h2⟩ := h.ev hx
  obtain ⟨u, h3, h4⟩ := OkV.nth l i hs h2
  exact s_xt h1 h3 hN (h.fin h4)
theorem c_lenR (h : HS w0 Mu M σ L w S ρ γ μ ι) (hN : Nat.blt d N = true) {t e : TypeId} {u : Ty} {xs : List (den u)} {x : Operand} (ht : P.underlying t = some (.slice e)) (hx : evS σ.env x = some (.dat (.sl u) xs)) :
    Goes P N ops ds L w ⟨some d, .call ⟨.builtin .len, #[x], #[t]⟩, ty, pos, af, none⟩ w0 Mu M (apps (some d) [.put (.int .i64 xs.length)] σ) B X Z := by
  obtain ⟨v, h1, _, cs, h2, h3 | h3⟩ := h.ev hx
  · cases h3.1
  · obtain ⟨_, rfl⟩ := h3
    obtain ⟨v', h4, h5⟩ := h2
    have h4 : v = v' := by simpa using h4
    subst h4
    exact s_len h1 h5 ht hN (h.fin ⟨rfl, RdS.inK h5⟩)
theorem c_lenO (h : HS w0 Mu M σ L w S ρ γ μ ι) (hN : Nat.blt d N = true) {t e : TypeId} {i e' : Nat} {p : Bool} {u : Ty} {xs : List (den u)} {x : Operand} (ht : P.underlying t = some (.slice e)) (hx : evS σ.env x = some (.own i)) (hi : fnd σ.res i = some (.own p (.sl e' u) xs)) :
    Goes P N ops ds L w ⟨some d, .call ⟨.builtin .len, #[x], #[t]⟩, ty, pos, af, none⟩ w0 Mu M (apps (some d) [.put (.int .i64 xs.length)] σ) B X Z := by
  obtain ⟨v, h1, h2, _⟩ := h.ev hx
  subst h2
  exact s_lenO h1 (h.ownAt hi) ht hN (h.fin ⟨rfl, Own.inK (h.ownAt hi)⟩)
theorem c_lenN (h : HS w0 Mu M σ L w S ρ γ μ ι) (hN : Nat.blt d N = true) {t e : TypeId} {x : Operand} (ht : P.underlying t = some (.slice e)) (hx : evS σ.env x = some .nilS) :
    Goes P N ops ds L w ⟨some d, .call ⟨.builtin .len, #[x], #[t]⟩, ty, pos, af, none⟩ w0 Mu M (apps (some d) [.put (.int .i64 0)] σ) B X Z := by
  obtain ⟨v, h1, h2⟩ := h.ev hx
  have h2 : v = .slice none 0 0 := h2
  subst h2
  exact s_lenV h1 ht hN (h.fin ⟨rfl, InK.i64.2 (by omega)⟩)
end
end Go.Rx
namespace Go.Rx
open Go Go.Sx Go.RowKit
variable [Trk] [Sg] [Sf] {P : Program} [Se P]
variable [Anch]
section
variable {w0 w w' : World} {Mu M : List Nat} {σ : AS} {L : Env} {S : List Res} {ρ : Nat → Value} {γ : Nat → List Value} {μ : Nat → List Nat} {ι : Nat → Nat}
variable {N : Nat} {ops : Array Oper} {ds : List Deferred} {B : Out} {X : Nat → Out} {Z : List PanicEntry → Out} {d : Nat} {ty : TypeId} {pos : String} {af : Array Edge} {G : Gx}
theorem SlT.size {t e : TypeId} {n b : Nat} (T : SlT P t e n b) : ∀ w, (sizeOf e).run P w = .ok n w := fun w => by
  obtain ⟨i, z, hi, _, hs, _, _⟩ := T.info
  simp [sizeOf, typeInfo, hi, hs]
theorem OkD.rds {M : List Nat} {w : World} {t : Ty} {xs : List (den t)} {v : Value} (h : OkD M w (.sl t) xs v) : RdS (enc t) M w v xs := by
  obtain ⟨cs, h2, h3 | h3⟩ := h
  · cases h3.1
  · obtain ⟨_, rfl⟩ := h3
    obtain ⟨v', h4, h5⟩ := h2
    have h4 : v = v' := by simpa using h4
    subst h4; exact h5
theorem c_iaR [Sl (P := P)] (h : HS w0 Mu M σ L w S ρ γ μ ι) (hG : GxOk P G) (hN : Nat.blt d N = true) {t e b : Nat} {u : Ty} {x y : Operand} {s : SV} {k : IntKind} {i : Int} {xs : List (den u)} {z : den u} (hl : lk G.sl t = some (e, u, b)) (hx : evS σ.env x = some s) (ho : owns s = []) (hd : toD (fnd σ.res) (.sl u) s = some xs) (hy : evS σ.env y = some (.int k i)) (hz : ixo xs i = some z) :
    Goes P N ops ds L w ⟨some d, .indexAddr t x y, ty, pos, af, none⟩ w0 Mu M (apps (some d) [.put (.rp (ofD u z) 0)] σ) B X Z := by
  obtain ⟨v, h1, h2⟩ := h.ev hx
  have h3 := (toD_ok (M' := mm S M) (fun _ hb => hb) (.sl u) s (fun j hj => by rw [ho] at hj; cases hj) hd h2).rds
  have hT := SlOk.at hG.sl hl
  refine p_ia h1 (h.int hy).1 h3 hz hT.und (SlT.size hT) hN fun b' o cs hR hC => ?_
  obtain ⟨u', h4, h5⟩ := OkD.of_cells hR
  exact h.fin ⟨b', o, u', cs, rfl, hC, ofD_ok u h4, h5⟩
theorem c_iaO (h : HS w0 Mu M σ L w S ρ γ μ ι) (hG : GxOk P G) (hN : Nat.blt d N = true) {t e b j e' : Nat} {p : Bool} {u : Ty} {x y : Operand} {k : IntKind} {i : Int} {xs : List (den u)} {z : den u} (hl : lk G.sl t = some (e, u, b)) (hx : evS σ.env x = some (.own j)) (hj : fnd σ.res j = some (.own p (.sl e' u) xs)) (hy : evS σ.env y = some (.int k i)) (hz : ixo xs i = some z) :
    Goes P N ops ds L w ⟨some d, .indexAddr t x y, ty, pos, af, none⟩ w0 Mu M (apps (some d) [.put (.ep j u i (some z) 0)] σ) B X Z := by
  obtain ⟨v, h1, h2, _⟩ := h.ev hx
  subst h2
  have hT := SlOk.at hG.sl hl
  refine y_ia (ι j) h.hp (h.res j _ hj) h1 (h.int hy).1 hz hT.und (SlT.size hT) hN fun g cs hg hR hC => ?_
  obtain ⟨hi0, hi1, _⟩ := ixo_out hz
  obtain ⟨g', cap, cur, h6, h7, _⟩ := (h.ownAt hj).at_ (by omega)
  rw [hg] at h7
  have : g = g' := by simpa using h7
  subst this
  exact h.fin ⟨g, _, _, p, e', xs, h6, hj, ⟨hi0, hi1⟩, rfl, fun y hy => by cases hy; exact hz⟩
/-- A value that may be written: its cells. -/
theorem storC_ok [Sl (P := P)] {s : SV} {ns : List SV} {v : Value} (hs : storC s = some ns) (h : Ok ρ (fnd σ.res) (mm S M) w s v) : OkL ρ (fnd σ.res) (mm S M) w ns v.cells.toList ∧ storL ns = true := by
  unfold storC at hs
  cases hb : storL (Rx.cellsOf s) with
  | false => rw [hb] at hs; exact (noS hs).elim
  | true =>
    rw [hb] at hs
    have hs := Option.some.inj hs
    subst hs
    exact ⟨Ok.cellsOf s h, hb⟩
theorem storL_one : ∀ (l : List SV) {vs : List Value}, storL l = true → OkL ρ (fnd σ.res) (mm S M) w l vs → ∀ u ∈ vs, u.oneCell' = true
  | [], vs, _, h => by
    have h : vs = [] := h
    rw [h]; exact fun _ hu => by cases hu
  | s :: l, vs, hs, ⟨u, c, r, h1, h2, h3, h4⟩ => by
    simp only [storL, Bool.and_eq_true] at hs
    rw [h1]
    intro x hx
    rcases List.mem_append.1 hx with hx | hx
    · exact Ok.oneC s hs.1 h2 x (by rw [h3]; simpa using hx)
    · exact storL_one l hs.2 h4 x hx
/-- A new variable, in whatever way. -/
theorem HS.newRow (h : HS w0 Mu M σ L w S ρ γ μ ι) {i e b : Nat} {l : List SV} {cs : List Value} (hp : Hp w0 Mu M (rowR e b cs :: S) w') (hA : Adv (mm S M) (mm (rowR e b cs :: S) M) w w') (hl : OkL ρ (fnd σ.res) (mm S M) w l cs) :
    HS w0 Mu M ((Ac.new i (.row e (subL i .dead l))).app none σ) L w' (rowR e b cs :: S) (upf ρ i (.pointer (some ⟨b, 0, none⟩))) (upf γ i cs) (upf μ i []) (fun j => if j = i then 0 else ι j + 1) := by
  refine h.new (r := .row e (subL i .dead l)) (v := .pointer (some ⟨b, 0, none⟩)) (cs := cs) (mu := []) hp hA ⟨⟨b, rfl⟩, ?_⟩
  refine OkL.sub (p := .dead) hA (fun j hj => upf_ne hj) (fun j hj p e' t xs h1 => ?_) trivial l hl
  show fnd ((i, _) :: rdel i (subR i .dead σ.res)) j = _
  rw [fnd_cons, if_neg (fun e => hj e.symm), fnd_rdel, if_neg hj, fnd_subR, h1]; rfl
theorem c_box [Sl (P := P)] (h : HS w0 Mu M σ L w S ρ γ μ ι) (hN : Nat.blt d N = true) {t : TypeId} {x : Operand} {s : SV} {l : List SV} (hx : evS σ.env x = some s) (hs : storC s = some l) :
    Goes P N ops ds L w ⟨some d, .box t x, ty, pos, af, none⟩ w0 Mu M (apps (some d) [.new d (.row t (subL d .dead l)), .put (.ptr d 0)] σ) B X Z := by
  obtain ⟨v, h1, h2⟩ := h.ev hx
  obtain ⟨h3, _⟩ := storC_ok hs h2
  refine y_box (cs := v.cells.toList) h.hp h1 (by simp) hN fun b w' hp hA => ?_
  have h4 := h.newRow (i := d) hp hA h3
  refine Reg.nil ⟨rfl, EnvS.put _ _ _, _, _, _, _, _, h4.put (d := d) (s := .ptr d 0) (v := .pointer (some ⟨b, 0, none⟩)) ⟨b, upf_self, rfl⟩⟩
theorem InK.zero (k : IntKind) : InK k 0 := by cases k <;> simp [InK, IntKind.min, IntKind.max, IntKind.signed, IntKind.bits]
theorem ary_zero {M : List Nat} {w : World} {R : Nat → Option AR} {k : IntKind} {m : Nat} : Ok ρ R M w (.ary k (m + 1) (List.replicate (m + 1) 0)) (.agg (List.toArray (List.replicate (m + 1) (.int k 0)))) :=
  ⟨_, ⟨by omega, by simp, by simp, fun y hy => by rw [(List.mem_replicate.1 hy).2]; exact InK.zero k⟩, .inl ⟨rfl, rfl⟩⟩
theorem zeroC_ok {M : List Nat} {w : World} {R : Nat → Option AR} : ∀ (u : Ty) {s : SV}, zeroC u = some s → Ok ρ R M w s (zv u)
  | .int k, s, h => by
    have h : SV.int k 0 = s := Option.some.inj h
    subst h; exact ⟨rfl, InK.zero k⟩
  | .bool, s, h => by
    have h : SV.bool false = s := Option.some.inj h
    subst h; exact rfl
  | .sl _, s, h => by
    have h : SV.nilS = s := Option.some.inj h
    subst h; exact rfl
  | .arr k n, s, h => by
    cases n with
    | zero => exact (noS h).elim
    | succ m =>
      have h : SV.ary k (m + 1) (List.replicate (m + 1) 0) = s := Option.some.inj h
      subst h; exact ary_zero
  | .st _, _, h => (noS h).elim
  | .mp _ _ _, s, h => by
    have h : SV.raw (.map none) = s := Option.some.inj h
    subst h; exact ⟨rfl, rfl, rfl⟩
theorem zeroL_ok {M : List Nat} {w : World} {R : Nat → Option AR} : ∀ (l : List Ty) {ss : List SV}, zeroL l = some ss → OkL ρ R M w ss (zv.zvL l)
  | [], ss, h => by
    have h : [] = ss := Option.some.inj h
    subst h; exact rfl
  | t :: l, ss, h => by
    simp only [zeroL] at h
    cases h1 : zeroC t with
    | none => rw [h1] at h; exact (noS h).elim
    | some s =>
      rw [h1] at h
      cases h2 : zeroL l with
      | none => rw [h2] at h; exact (noS h).elim
      | some r =>
        rw [h2] at h
        have h : s :: r = ss := Option.some.inj h
        subst h
        have h3 : OkL ρ R M w r (zv.zvL l) := zeroL_ok l h2
        have h4 : Ok ρ R M w s (zv t) := zeroC_ok t h1
        refine ⟨zv t, (zv t).cells.toList, _, ?_, h4, by simp, h3⟩
        cases t with
        | arr k n => rfl
        | int _ | bool | sl _ => rfl
        | st _ => exact (noS h1).elim
        | mp _ _ _ => rfl
theorem zeroS_ok (hG : GxOk P G) {M : List Nat} {w : World} {R : Nat → Option AR} {t : Nat} {s : SV} (h : zeroS G t = some s) : ∃ z, (∀ w, (zeroValue t).run P w = .ok z w) ∧ Ok ρ R M w s z := by
  unfold zeroS at h
  cases hu : lk G.ty t with
  | none =>
    rw [hu] at h
    simp only at h
    cases hp : lk G.pz t with
    | none => rw [hp] at h; exact (noS h).elim
    | some q =>
      rw [hp] at h
      have h : SV.raw (nilV q) = s := Option.some.inj h
      subst h
      exact ⟨_, PzOk.at hG.pz hp, rfl, by cases q <;> rfl, by cases q <;> rfl⟩
  | some u =>
    rw [hu] at h
    refine ⟨zv u, (TyOk.at hG.ty hu).2.2, ?_⟩
    cases u with
    | st n =>
      simp only at h
      cases hl : zeroL (Sf.ft n) with
      | none => rw [hl] at h; exact (noS h).elim
      | some l =>
        rw [hl] at h
        have h : SV.agg l = s := Option.some.inj h
        subst h
        exact ⟨_, rfl, zeroL_ok _ hl⟩
    | int _ | bool | sl _ | arr _ _ | mp _ _ _ => exact zeroC_ok _ h
theorem c_alloc [Sl (P := P)] (h : HS w0 Mu M σ L w S ρ γ μ ι) (hG : GxOk P G) (hN : Nat.blt d N = true) {t : TypeId} {s : SV} {l : List SV} (hz : zeroS G t = some s) (hs : storC s = some l) :
    Goes P N ops ds L w ⟨some d, .alloc t, ty, pos, af, none⟩ w0 Mu M (apps (some d) [.new d (.row t (subL d .dead l)), .put (.ptr d 0)] σ) B X Z := by
  obtain ⟨z, h1, h2⟩ := zeroS_ok (ρ := ρ) (M := mm S M) (w := w) (R := fnd σ.res) hG hz
  obtain ⟨h3, _⟩ := storC_ok hs h2
  refine y_al (cs := z.cells.toList) h.hp h1 (by simp) hN fun b w' hp hA => ?_
  have h4 := h.newRow (i := d) hp hA h3
  refine Reg.nil ⟨rfl, EnvS.put _ _ _, _, _, _, _, _, h4.put (d := d) (s := .ptr d 0) (v := .pointer (some ⟨b, 0, none⟩)) ⟨b, upf_self, rfl⟩⟩
/-- New cells over old ones. -/
theorem overL_ok {M : List Nat} {w : World} {R : Nat → Option AR} : ∀ (ns l : List SV) {l' : List SV} {cs vs : List Value}, overL l ns = some l' → OkL ρ R M w l cs → OkL ρ R M w ns vs → vs.length ≤ cs.length ∧ OkL ρ R M w l' (vs ++ cs.drop vs.length)
  | [], l, l', cs, vs, h, h1, h2 => by
    have h : some l = some l' := by cases l <;> exact h
    cases h
    have h2 : vs = [] := h2
    subst h2
    exact ⟨Nat.zero_le _, h1⟩
  | _ :: _, [], _, _, _, h, _, _ => (noS h).elim
  | n :: ns, s :: l, l', cs, vs, h, ⟨u, c, r, h1, h2, h3, h4⟩, ⟨u', c', r', h1', h2', h3', h4'⟩ => by
    simp only [overL] at h
    cases hb : Nat.beq (wd s) (wd n) with
    | false => simp only [hb] at h; exact (noS h).elim
    | true =>
      simp only [hb] at h
      have he := Nat.eq_of_beq_eq_true hb
      cases hw : wd n with
      | zero => simp only [hw] at h; exact (noS h).elim
      | succ m =>
        simp only [hw] at h
        cases hx : overL l ns with
        | none => simp only [hx] at h; exact (noS h).elim
        | some x =>
          simp only [hx] at h
          have h := Option.some.inj h
          subst h
          have e1 := wd_len n hw h2'
          have e2 := wd_len s (he.trans hw) h2
          rw [h3'] at e1; rw [h3] at e2
          have e1 : c'.length = m + 1 := by simpa using e1
          have e2 : c.length = m + 1 := by simpa using e2
          obtain ⟨h5, h6⟩ := overL_ok ns l hx h4 h4'
          subst h1; subst h1'
          refine ⟨by simp; omega, u', c', _, ?_, h2', h3', h6⟩
          rw [List.append_assoc, List.length_append, List.drop_append, List.drop_eq_nil_of_le (by omega), List.nil_append, show c'.length + r'.length - c.length = r'.length by omega]
theorem setW_ok {M : List Nat} {w : World} {R : Nat → Option AR} : ∀ (l : List SV) (o : Nat) {ns l' : List SV} {cs vs : List Value}, setW l o ns = some l' → OkL ρ R M w l cs → OkL ρ R M w ns vs → o + vs.length ≤ cs.length ∧ OkL ρ R M w l' (cs.take o ++ vs ++ cs.drop (o + vs.length))
  | l, 0, ns, l', cs, vs, h, h1, h2 => by
    have h : overL l ns = some l' := by cases l <;> exact h
    obtain ⟨h3, h4⟩ := overL_ok ns l h h1 h2
    exact ⟨by omega, by simpa using h4⟩
  | [], _ + 1, _, _, _, _, h, _, _ => (noS h).elim
  | s :: l, o + 1, ns, l', cs, vs, h, ⟨u, c, r, h1, h2, h3, h4⟩, hv => by
    simp only [setW] at h
    cases hw : wd s with
    | zero => simp only [hw] at h; exact (noS h).elim
    | succ n =>
      simp only [hw] at h
      cases hb : Nat.ble n o with
      | false => simp only [hb] at h; exact (noS h).elim
      | true =>
        simp only [hb] at h
        have hle := Nat.le_of_ble_eq_true hb
        cases hx : setW l (o - n) ns with
        | none => simp only [hx] at h; exact (noS h).elim
        | some x =>
          simp only [hx] at h
          have h := Option.some.inj h
          subst h
          have e2 := wd_len s hw h2
          rw [h3] at e2
          have e2 : c.length = n + 1 := by simpa using e2
          obtain ⟨h5, h6⟩ := setW_ok l (o - n) hx h4 hv
          subst h1
          refine ⟨by simp; omega, u, c, _, ?_, h2, h3, h6⟩
          rw [List.take_append, List.take_of_length_le (by omega), List.drop_append, List.drop_eq_nil_of_le (by omega), List.nil_append, e2, show o + 1 - (n + 1) = o - n by omega, show o + 1 + vs.length - (n + 1) = o - n + vs.length by omega]
          simp
end
end Go.Rx
namespace Go.Rx
open Go Go.Sx Go.RowKit
variable [Trk] [Sg] [Sf] {P : Program} [Se P]
variable [Anch]
section
variable {ρ : Nat → Value} {R R' : Nat → Option AR} {M : List Nat} {w : World}
mutual
/-- Slices of one's own being what they were. -/
theorem Ok.res (hR : ∀ j p e t (xs : List (den t)), R j = some (.own p (.sl e t) xs) → R' j = some (.own p (.sl e t) xs)) : ∀ (s : SV) {v : Value}, Ok ρ R M w s v → Ok ρ R' M w s v
  | .int _ _, _, h | .bool _, _, h | .dat _ _, _, h | .str _ _, _, h | .ary _ _ _, _, h | .own _, _, h | .ptr _ _, _, h | .fv _ _ _, _, h | .nilS, _, h | .np _ _, _, h | .it _ _, _, h | .raw _, _, h | .undef, _, h | .dead, _, h => h
  | .agg l, _, ⟨vs, h1, h2⟩ => ⟨vs, h1, OkL.res hR l h2⟩
  | .ep j t x z o, v, ⟨g, n, c, q, e, xs, h1, h2, h3⟩ => ⟨g, n, c, q, e, xs, h1, hR _ _ _ _ _ h2, h3⟩
  | .rp s _, _, ⟨b, o0, u, vs, h1, h2, h3, h4⟩ => ⟨b, o0, u, vs, h1, h2, Ok.res hR s h3, h4⟩
  | .ap s _ _ _, _, ⟨b, o, h1, h2⟩ => ⟨b, o, Ok.res hR s h1, h2⟩
  | .fn _ l, _, ⟨vs, h1, h2⟩ => ⟨vs, h1, OkV.res hR l h2⟩
  | .tup l, _, ⟨vs, h1, h2⟩ => ⟨vs, h1, OkV.res hR l h2⟩
theorem OkL.res (hR : ∀ j p e t (xs : List (den t)), R j = some (.own p (.sl e t) xs) → R' j = some (.own p (.sl e t) xs)) : ∀ (l : List SV) {vs : List Value}, OkL ρ R M w l vs → OkL ρ R' M w l vs
  | [], _, h => h
  | s :: l, _, ⟨u, c, r, h1, h2, h3, h4⟩ => ⟨u, c, r, h1, Ok.res hR s h2, h3, OkL.res hR l h4⟩
theorem OkV.res (hR : ∀ j p e t (xs : List (den t)), R j = some (.own p (.sl e t) xs) → R' j = some (.own p (.sl e t) xs)) : ∀ (l : List SV) {vs : List Value}, OkV ρ R M w l vs → OkV ρ R' M w l vs
  | [], _, h => h
  | s :: l, _, ⟨u, r, h1, h2, h3⟩ => ⟨u, r, h1, Ok.res hR s h2, OkV.res hR l h3⟩
end
end
section
variable {w0 w w' : World} {Mu M : List Nat} {σ : AS} {L : Env} {S : List Res} {ρ : Nat → Value} {γ : Nat → List Value} {μ : Nat → List Nat} {ι : Nat → Nat}
variable {N : Nat} {ops : Array Oper} {ds : List Deferred} {B : Out} {X : Nat → Out} {Z : List PanicEntry → Out} {d : Nat} {ty : TypeId} {pos : String} {af : Array Edge} {G : Gx}
theorem fnd_upd {i j : Nat} {g : AR → AR} {c : List Nat} : fnd (σ.upd i g c).res j = if j = i then (fnd σ.res j).map g else (fnd σ.res j).map (AR.old i) := by
  show fnd (updR i g σ.res) j = _
  rw [fnd_updR]
theorem c_storeP [Sl (P := P)] (h : HS w0 Mu M σ L w S ρ γ μ ι) (hG : GxOk P G) {t i o e n : Nat} {x y : Operand} {s : SV} {l l' ns : List SV} (hy : evS σ.env y = some s) (hs : storC s = some ns) (hx : evS σ.env x = some (.ptr i o)) (hi : fnd σ.res i = some (.row e l)) (hw : setW l o ns = some l') (hz : lk G.sz t = some n) (hn : widths ns = some n) :
    Goes P N ops ds L w ⟨none, .store t x y, ty, pos, af, none⟩ w0 Mu M (apps none [.sto i o ns] σ) B X Z := by
  have hg : stoR o ns (.row e l) = .row e l' := by simp only [stoR, hw]
  obtain ⟨v, h1, h2⟩ := h.ev hy
  obtain ⟨h3, h4⟩ := storC_ok hs h2
  obtain ⟨u, h5, b, h6, rfl⟩ := h.ev hx
  obtain ⟨b', h7, h8, h9, h10⟩ := h.rowAt hi
  rw [h6] at h7; cases h7
  obtain ⟨h11, h12⟩ := setW_ok l o hw h9 h3
  refine y_st (ι i) (vs := v.cells.toList) h.hp h10 h5 h1 (by simp) (SzOk.at hG.sz hz) (widths_len ns hn h3) (Nat.ble_eq_true_of_le h11) (storL_one ns h4 h3) fun w' hp hA => ?_
  have hres : S.set (ι i) (rowR e b (setAt (γ i) o v.cells.toList)) = S.set (ι i) (resOf (ρ i) (setAt (γ i) o v.cells.toList) (μ i) (.row e l')) := by
    show _ = S.set (ι i) (rowR e (blk (ρ i)) _)
    rw [h6]; rfl
  rw [hres] at hp hA
  refine Reg.nil ⟨rfl, EnvS.refl _ _, _, _, _, _, _, h.upd (r := .row e l') (g := stoR o ns) (c := stoC o ns (fnd σ.res i)) hi hg hp hA (fun p e' t' xs he => by cases he) ⟨⟨b, h6⟩, ?_⟩⟩
  rw [← setAt_eq _ _ _ h11] at h12
  refine OkL.res (fun j p e' t' xs hj => ?_) l' (OkL.adv hA l' h12)
  rw [fnd_upd]
  by_cases he : j = i
  · subst he; rw [hi] at hj; cases hj
  · rw [if_neg he, hj]; rfl
theorem toP_one {R : Nat → Option AR} {t : Ty} {l : List SV} {x : den t} (h : toP R t l = some x) (hs : ∀ n, t ≠ .st n) : ∃ s, l = [s] ∧ toD R t s = some x := by
  cases t with
  | st n => exact absurd rfl (hs n)
  | int _ | bool | sl _ | arr _ _ | mp _ _ _ =>
    cases l with
    | nil => exact (noS h).elim
    | cons s r => cases r with
      | nil => exact ⟨s, rfl, h⟩
      | cons _ _ => exact (noS h).elim
theorem toP_ok [Sl (P := P)] {M M' : List Nat} {w : World} {R : Nat → Option AR} (hM : ∀ b ∈ M', b ∈ M) (t : Ty) {l : List SV} {x : den t} {cs : List Value} (hr : Rds ρ R M' w (ownsLL l)) (hd : toP R t l = some x) (h : OkL ρ R M w l cs) : (enc t).R M' w cs x := by
  by_cases hs : ∃ n, t = .st n
  · obtain ⟨n, rfl⟩ := hs
    exact (toD_ok (v := .agg (List.toArray cs)) hM (.st n) (.agg l) hr hd ⟨cs, rfl, h⟩).cells
  · obtain ⟨s, rfl, h1⟩ := toP_one hd fun n e => hs ⟨n, e⟩
    obtain ⟨u, rfl, h2⟩ := h.one
    exact (toD_ok hM t s (hr.mono (by simp [ownsLL])) h1 h2).cells
end
end Go.Rx
namespace Go.Rx
open Go Go.Sx Go.RowKit
variable [Trk] [Sg] [Sf] {P : Program} [Se P]
variable [Anch]
theorem apps_app {d : Option Nat} : ∀ (a b : List Ac) (σ : AS), apps d (a ++ b) σ = apps d b (apps d a σ)
  | [], _, _ => rfl
  | _ :: a, b, σ => apps_app a b _
theorem frz_only {R : Nat → Option AR} : ∀ (I : List Nat) {as_ : List Ac}, frz R I = some as_ → ∀ a ∈ as_, ∃ i p, a = .del i p
  | [], as_, h, a, ha => by cases h; cases ha
  | i :: I, as_, h, a, ha => by
    simp only [frz] at h
    cases hh : has I i with
    | true => rw [hh, cond_true] at h; exact frz_only I h a ha
    | false =>
      rw [hh, cond_false] at h
      generalize hg : frz1 R i = o at h
      cases o with
      | none => exact (noS h).elim
      | some a1 =>
        generalize hg2 : frz R I = o2 at h
        cases o2 with
        | none => exact (noS h).elim
        | some r =>
          have h : a1 ++ r = as_ := Option.some.inj h
          subst h
          rcases List.mem_append.1 ha with ha | ha
          · unfold frz1 at hg
            split at hg
            · cases hg; exact ⟨_, _, by simpa using ha⟩
            · cases hg
            · split at hg
              · cases hg; exact ⟨_, _, by simpa using ha⟩
              · cases hg
            · cases hg
          · exact frz_only I hg2 a ha
theorem apps_del {d : Option Nat} : ∀ (as_ : List Ac) (σ : AS), (∀ a ∈ as_, ∃ i p, a = .del i p) → apps d as_ σ = apps none as_ σ
  | [], _, _ => rfl
  | a :: as_, σ, h => by
    obtain ⟨i, p, rfl⟩ := h a (List.mem_cons_self ..)
    exact apps_del as_ _ fun b hb => h b (List.mem_cons_of_mem _ hb)
section
variable {w0 w w' : World} {Mu M : List Nat} {σ : AS} {L : Env} {S : List Res} {ρ : Nat → Value} {γ : Nat → List Value} {μ : Nat → List Nat} {ι : Nat → Nat}
variable {N : Nat} {ops : Array Oper} {ds : List Deferred} {B : Out} {X : Nat → Out} {Z : List PanicEntry → Out} {d : Nat} {ty : TypeId} {pos : String} {af : Array Edge} {G : Gx}
theorem HS.evL (h : HS w0 Mu M σ L w S ρ γ μ ι) : ∀ {xs : List Operand} {ss : List SV}, evL (evS σ.env) xs = some ss → ∃ vs, evs L xs = some vs ∧ OkV ρ (fnd σ.res) (mm S M) w ss vs
  | [], ss, hx => by cases hx; exact ⟨[], rfl, rfl⟩
  | x :: xs, ss, hx => by
    simp only [Rx.evL] at hx
    cases h1 : evS σ.env x with
    | none => rw [h1] at hx; exact (noS hx).elim
    | some s =>
      rw [h1] at hx
      cases h2 : Rx.evL (evS σ.env) xs with
      | none => rw [h2] at hx; exact (noS hx).elim
      | some r =>
        rw [h2] at hx
        have hx : s :: r = ss := Option.some.inj hx
        subst hx
        obtain ⟨v, h3, h4⟩ := h.ev h1
        obtain ⟨vs, h5, h6⟩ := h.evL h2
        exact ⟨v :: vs, by simp only [evs, h3, h5], v, vs, rfl, h4, h6⟩
/-- What is looked up is there. -/
theorem still_self {R : Nat → Option AR} {I : List Nat} : Still R R I := fun _ _ => ⟨fun _ _ _ h => h, fun _ _ h _ => h⟩
theorem HS.frz (h : HS w0 Mu M σ L w S ρ γ μ ι) {I : List Nat} {as_ : List Ac} (hf : frz (fnd σ.res) I = some as_) :
    ∃ S1 ι1, HS w0 Mu M (apps (some d) as_ σ) L w S1 ρ γ μ ι1 ∧ RdR ρ γ (fnd σ.res) (mm S1 M) w I ∧ ∀ b ∈ mm S1 M, b ∈ mm S M := by
  rw [apps_del as_ σ (frz_only I hf)]
  exact frz_ok I (fnd σ.res) still_self h hf
/-- append, to a new slice and to one's own. -/
theorem c_appN [Sl (P := P)] (h : HS w0 Mu M σ L w S ρ γ μ ι) (hG : GxOk P G) (hN : Nat.blt d N = true) {t e b : Nat} {u : Ty} {x y : Operand} {s : SV} {ys l : List (den u)} {fz : List Ac} (hl : lk G.sl t = some (e, u, b)) (hx : evS σ.env x = some .nilS) (hy : evS σ.env y = some s) (hd : toD (fnd σ.res) (.sl u) s = some ys) (hf : frz (fnd σ.res) (owns s) = some fz) (hap : appo b ([] : List (den u)) ys = some l) :
    Goes P N ops ds L w ⟨some d, .call ⟨.builtin .append, #[x, y], #[t, t]⟩, ty, pos, af, none⟩ w0 Mu M (apps (some d) (fz ++ [.new d (.own false (.sl e u) l), .put (.own d)]) σ) B X Z := by
  obtain ⟨v, h1, h2⟩ := h.ev hx
  have h2 : v = .slice none 0 0 := h2
  subst h2
  obtain ⟨v2, h3, h4⟩ := h.ev hy
  obtain ⟨S1, ι1, h5, h6, h7⟩ := h.frz (d := d) hf
  have h8 := (toD_ok (M' := mm S1 M) h7 (.sl u) s h6.1 hd h4).rds
  obtain ⟨hb, he⟩ := appo_out hap
  have hp0 := h5.hp.addNil (enc u) e
  refine y_app 0 (SlOk.at hG.sl hl) (mu := []) hp0 rfl h1 h3 (h8.adv (Hp.addNilA (enc u) e)) hb hN fun v' w' hp hA => ?_
  have hset : (ownR [] (enc u) e (.slice none 0 0) ([] : List (den u)) :: S1).set 0 (ownR [] (enc u) e v' ([] ++ ys)) = ownR [] (enc u) e v' l :: S1 := by rw [he]; rfl
  rw [hset] at hp hA
  have hA' : Adv (mm S1 M) (mm (ownR [] (enc u) e v' l :: S1) M) w w' := (Hp.addNilA (enc u) e).trans hA
  have h9 := h5.new (i := d) (r := .own false (.sl e u) l) (v := v') (cs := []) (mu := []) hp hA' trivial
  have ho : Sx.Own (enc u) e 0 (mm (ownR [] (enc u) e v' l :: S1) M) w' v' l := hp.ownAt 0 rfl
  refine Reg.nil ⟨rfl, EnvS.put _ _ _, ?_⟩
  rw [apps_app]
  exact ⟨_, _, _, _, _, h9.put (d := d) (s := .own d) (v := v') ⟨upf_self.symm, by rw [ho.cells1], ho.oneC⟩⟩
theorem frz_ids {R : Nat → Option AR} : ∀ (I : List Nat) {as_ : List Ac}, frz R I = some as_ → ∀ a ∈ as_, ∃ i ∈ I, ∃ p, a = .del i p
  | [], as_, h, a, ha => by cases h; cases ha
  | i :: I, as_, h, a, ha => by
    simp only [Rx.frz] at h
    cases hh : has I i with
    | true =>
      rw [hh, cond_true] at h
      obtain ⟨j, hj, p, rfl⟩ := frz_ids I h a ha
      exact ⟨j, List.mem_cons_of_mem _ hj, p, rfl⟩
    | false =>
      rw [hh, cond_false] at h
      generalize hg : frz1 R i = o at h
      cases o with
      | none => exact (noS h).elim
      | some a1 =>
        generalize hg2 : Rx.frz R I = o2 at h
        cases o2 with
        | none => exact (noS h).elim
        | some r =>
          have h : a1 ++ r = as_ := Option.some.inj h
          subst h
          rcases List.mem_append.1 ha with ha | ha
          · unfold frz1 at hg
            split at hg
            · cases hg; exact ⟨i, List.mem_cons_self .., _, by simpa using ha⟩
            · cases hg
            · split at hg
              · cases hg; exact ⟨i, List.mem_cons_self .., _, by simpa using ha⟩
              · cases hg
            · cases hg
          · obtain ⟨j, hj, p, rfl⟩ := frz_ids I hg2 a ha
            exact ⟨j, List.mem_cons_of_mem _ hj, p, rfl⟩
theorem del_own {d : Option Nat} {i : Nat} {p : Bool} {e : Nat} {t : Ty} {xs : List (den t)} : ∀ (as_ : List Ac) (σ : AS), (∀ a ∈ as_, ∃ j q, a = .del j q ∧ j ≠ i) → fnd σ.res i = some (.own p (.sl e t) xs) → fnd (apps d as_ σ).res i = some (.own p (.sl e t) xs)
  | [], _, _, h => h
  | a :: as_, σ, ha, h => by
    obtain ⟨j, q, rfl, hne⟩ := ha a (List.mem_cons_self ..)
    refine del_own as_ _ (fun b hb => ha b (List.mem_cons_of_mem _ hb)) ?_
    show fnd (rdel j (subR j q σ.res)) i = _
    rw [fnd_rdel, if_neg (fun e => hne e.symm), fnd_subR, h]; rfl
theorem del_ownC {d : Option Nat} {i : Nat} {p : Bool} {c : Oc} {x : den c.ty} : ∀ (as_ : List Ac) (σ : AS), (∀ a ∈ as_, ∃ j q, a = .del j q ∧ j ≠ i) → fnd σ.res i = some (.own p c x) → fnd (apps d as_ σ).res i = some (.own p c x)
  | [], _, _, h => h
  | a :: as_, σ, ha, h => by
    obtain ⟨j, q, rfl, hne⟩ := ha a (List.mem_cons_self ..)
    refine del_ownC as_ _ (fun b hb => ha b (List.mem_cons_of_mem _ hb)) ?_
    show fnd (rdel j (subR j q σ.res)) i = _
    rw [fnd_rdel, if_neg (fun e => hne e.symm), fnd_subR, h]; rfl
theorem c_appO [Sl (P := P)] (h : HS w0 Mu M σ L w S ρ γ μ ι) (hG : GxOk P G) (hN : Nat.blt d N = true) {t e b i : Nat} {p : Bool} {u : Ty} {x y : Operand} {s : SV} {xs ys l : List (den u)} {fz : List Ac} (hl : lk G.sl t = some (e, u, b)) (hx : evS σ.env x = some (.own i)) (hi : fnd σ.res i = some (.own p (.sl e u) xs)) (hni : i ∉ owns s) (hy : evS σ.env y = some s) (hd : toD (fnd σ.res) (.sl u) s = some ys) (hf : frz (fnd σ.res) (owns s) = some fz) (hap : appo b xs ys = some l) :
    Goes P N ops ds L w ⟨some d, .call ⟨.builtin .append, #[x, y], #[t, t]⟩, ty, pos, af, none⟩ w0 Mu M (apps (some d) (fz ++ [.hnd i (.own p (.sl e u) l), .put (.own i)]) σ) B X Z := by
  obtain ⟨v, h1, h2, _⟩ := h.ev hx
  subst h2
  obtain ⟨v2, h3, h4⟩ := h.ev hy
  obtain ⟨S1, ι1, h5, h6, h7⟩ := h.frz (d := d) hf
  have h8 := (toD_ok (M' := mm S1 M) h7 (.sl u) s h6.1 hd h4).rds
  obtain ⟨hb, he⟩ := appo_out hap
  have h9 : fnd (apps (some d) fz σ).res i = some (.own p (.sl e u) xs) := del_own fz σ (fun a ha => by
    obtain ⟨j, hj, q, rfl⟩ := frz_ids _ hf a ha
    exact ⟨j, q, rfl, fun e => hni (e ▸ hj)⟩) hi
  have h10 := h5.res i _ h9
  refine y_app (ι1 i) (SlOk.at hG.sl hl) (mu := bif p then μ i else []) h5.hp h10 h1 h3 h8 hb hN fun v' w' hp hA => ?_
  rw [← he] at hp hA
  have hil : ι1 i < S1.length := by
    rcases Nat.lt_or_ge (ι1 i) S1.length with h1 | h1
    · exact h1
    · rw [List.getElem?_eq_none h1] at h10; cases h10
  have ho : Sx.Own (enc u) e 0 (mm (S1.set (ι1 i) (ownR (bif p then μ i else []) (enc u) e v' l)) M) w' v' l := hp.ownAt (ι1 i) (mu := bif p then μ i else []) (by simp [hil])
  have h11 := h5.hnd (r := .own p (.sl e u) l) (v := v') (cs := []) h9 hp hA trivial
  refine Reg.nil ⟨rfl, EnvS.put _ _ _, ?_⟩
  rw [apps_app]
  exact ⟨_, _, _, _, _, h11.put (d := d) (s := .own i) (v := v') ⟨upf_self.symm, by rw [ho.cells1], ho.oneC⟩⟩
end
end Go.Rx
namespace Go.Rx
open Go Go.Sx Go.RowKit
variable [Trk] [Sg] [Sf] {P : Program} [Se P]
variable [Anch]
section
variable {w0 w w' : World} {Mu M : List Nat} {σ : AS} {L : Env} {S : List Res} {ρ : Nat → Value} {γ : Nat → List Value} {μ : Nat → List Nat} {ι : Nat → Nat}
variable {N : Nat} {ops : Array Oper} {ds : List Deferred} {B : Out} {X : Nat → Out} {Z : List PanicEntry → Out} {d : Nat} {ty : TypeId} {pos : String} {af : Array Edge} {G : Gx}
theorem c_min (h : HS w0 Mu M σ L w S ρ γ μ ι) (hN : Nat.blt d N = true) {x y : Operand} {k : IntKind} {i j : Int} {ts : Array TypeId} (hx : evS σ.env x = some (.int k i)) (hy : evS σ.env y = some (.int k j)) :
    Goes P N ops ds L w ⟨some d, .call ⟨.builtin .min, #[x, y], ts⟩, ty, pos, af, none⟩ w0 Mu M (apps (some d) [.put (.int k (min i j))] σ) B X Z :=
  s_min (h.int hx).1 (h.int hy).1 hN (h.fin ⟨rfl, InK.imin (h.int hx).2 (h.int hy).2⟩)
theorem c_max (h : HS w0 Mu M σ L w S ρ γ μ ι) (hN : Nat.blt d N = true) {x y : Operand} {k : IntKind} {i j : Int} {ts : Array TypeId} (hx : evS σ.env x = some (.int k i)) (hy : evS σ.env y = some (.int k j)) :
    Goes P N ops ds L w ⟨some d, .call ⟨.builtin .max, #[x, y], ts⟩, ty, pos, af, none⟩ w0 Mu M (apps (some d) [.put (.int k (max i j))] σ) B X Z :=
  s_max (h.int hx).1 (h.int hy).1 hN (h.fin ⟨rfl, InK.imax (h.int hx).2 (h.int hy).2⟩)
theorem c_makeFunc (h : HS w0 Mu M σ L w S ρ γ μ ι) (hN : Nat.blt d N = true) {g : Nat} {xs : List Operand} {l : List SV} (hx : evL (evS σ.env) xs = some l) :
    Goes P N ops ds L w ⟨some d, .makeFunc (.func g) #[] (List.toArray xs), ty, pos, af, none⟩ w0 Mu M (apps (some d) [.put (.fn g l)] σ) B X Z := by
  obtain ⟨vs, h1, h2⟩ := h.evL hx
  exact s_mf h1 hN (h.fin ⟨vs, rfl, h2⟩)
theorem c_field [Sl (P := P)] (h : HS w0 Mu M σ L w S ρ γ μ ι) (hG : GxOk P G) (hN : Nat.blt d N = true) {t f k u : Nat} {l : List (Nat × Nat)} {x : Operand} {v r : SV} (hl : lk G.tb.st t = some l) (hf : nth l f = some (k, u)) (hx : evS σ.env x = some v) (hc : loadC G u k v = some r) (hv : isAg v = true) :
    Goes P N ops ds L w ⟨some d, .field t x f, ty, pos, af, none⟩ w0 Mu M (apps (some d) [.put r] σ) B X Z := by
  obtain ⟨fields, hu, hfl⟩ := StOk.at hG.st hl
  obtain ⟨fl, m, h1, h2, h3, h4⟩ := hfl.at hf
  rw [Nat.zero_add] at h1
  obtain ⟨y, h5, h6⟩ := h.ev hx
  have h7 := isAg_agg v hv h6
  have h8 : Sx.ev L x = some (.agg (List.toArray y.cells.toList)) := by rw [Array.toArray_toList, ← h7]; exact h5
  subst h2; subst h3
  rcases loadC_ok hc h6 with ⟨ha, z, h9, h10⟩ | ⟨n, cs, ha, h9, h10, h11⟩
  · exact s_fd h8 hu h1 (AgOk.at0 hG.ag ha) h9 hN (h.fin h10)
  · refine s_fdA h8 hu h1 (AgOk.at1 hG.ag ha).1 (AgOk.at1 hG.ag ha).2 hN ?_
    have : (y.cells.toList.drop fl.offset).take n = cs := by
      apply List.ext_getElem?
      intro j
      rcases Nat.lt_or_ge j n with hj | hj
      · rw [List.getElem?_take, if_pos hj, List.getElem?_drop, List.getElem?_eq_getElem (l := cs) (by omega)]
        exact h10 j _ (List.getElem?_eq_getElem (by omega))
      · rw [List.getElem?_take, if_neg (by omega), List.getElem?_eq_none (by omega)]
    rw [this]
    exact h.fin h11
theorem seqB_ok : ∀ (l : List (Nat × Operand)) (i : Nat), seqB i l = true → l.map (·.1) = List.range' i l.length
  | [], _, _ => rfl
  | (j, _) :: r, i, h => by
    simp only [seqB, Bool.and_eq_true] at h
    have := Nat.eq_of_beq_eq_true h.1
    subst this
    simp [List.range'_succ, seqB_ok r (i + 1) h.2]
theorem listD_ok [Sl (P := P)] {R : Nat → Option AR} {M M' : List Nat} {w : World} (hM : ∀ b ∈ M', b ∈ M) {u : Ty} : ∀ (ss : List SV) {xs : List (den u)} {vs : List Value}, Rds ρ R M' w (ownsLL ss) → listD u R ss = some xs → OkV ρ R M w ss vs → Cls vs (vs.map fun v => v.cells.toList) ∧ Chs (enc u) M' w (vs.map fun v => v.cells.toList) xs
  | [], xs, vs, _, h, hk => by
    have hk : vs = [] := hk
    have h : [] = xs := Option.some.inj h
    subst hk; subst h
    exact ⟨Cls.nil, Chs.nil⟩
  | s :: l, xs, vs, hr, h, ⟨v, r, h1, h2, h3⟩ => by
    simp only [listD] at h
    cases hd : toD R u s with
    | none => rw [hd] at h; exact (noS h).elim
    | some x =>
      rw [hd] at h
      cases hl : listD u R l with
      | none => rw [hl] at h; exact (noS h).elim
      | some y =>
        rw [hl] at h
        have h : x :: y = xs := Option.some.inj h
        subst h; subst h1
        have h4 := (toD_ok hM u s (hr.mono (by simp only [ownsLL]; intro i hi; exact List.mem_append_left _ hi)) hd h2).cells
        obtain ⟨h5, h6⟩ := listD_ok hM l (hr.mono (by simp only [ownsLL]; intro i hi; exact List.mem_append_right _ hi)) hl h3
        exact ⟨Cls.cons (by simp) h5, Chs.cons h4 h6⟩
theorem c_buildSlice [Sl (P := P)] (h : HS w0 Mu M σ L w S ρ γ μ ι) (hG : GxOk P G) (hN : Nat.blt d N = true) {t e b n m : Nat} {u : Ty} {ps : List (Nat × Operand)} {ss : List SV} {xs : List (den u)} {fz : List Ac} (hl : lk G.sl t = some (e, u, b)) (hm : lk G.sz e = some m) (hv : evL (evS σ.env) (ps.map (·.2)) = some ss) (hd : listD u (fnd σ.res) ss = some xs) (hf : frz (fnd σ.res) (ownsLL ss) = some fz) (hs : seqB 0 ps = true) (hn : n = ps.length) (hb : Nat.ble (n * m) 16777216 = true) :
    Goes P N ops ds L w ⟨some d, .buildSlice t n (List.toArray ps), ty, pos, af, none⟩ w0 Mu M (apps (some d) (fz ++ [.new d (.own false (.sl e u) xs), .put (.own d)]) σ) B X Z := by
  subst hn
  obtain ⟨vs, h1, h2⟩ := h.evL hv
  obtain ⟨S1, ι1, h5, h6, h7⟩ := h.frz (d := d) hf
  obtain ⟨h8, h9⟩ := listD_ok (M' := mm S1 M) h7 ss h6.1 hd h2
  have hT := SlOk.at hG.sl hl
  have hsz : m = (enc u).n := by
    have e1 := SzOk.at hG.sz hm w
    rw [SlT.size hT w] at e1
    cases e1; rfl
  subst hsz
  have hi := seqB_ok ps 0 hs
  rw [← List.range_eq_range'] at hi
  refine y_bs hT h5.hp hi h1 h8 h9 hb hN fun v' w' hp hA => ?_
  have h10 := h5.new (i := d) (r := .own false (.sl e u) xs) (v := v') (cs := []) (mu := []) hp hA trivial
  have ho : Sx.Own (enc u) e 0 (mm (ownR [] (enc u) e v' xs :: S1) M) w' v' xs := hp.ownAt 0 rfl
  refine Reg.nil ⟨rfl, EnvS.put _ _ _, ?_⟩
  rw [apps_app]
  exact ⟨_, _, _, _, _, h10.put (d := d) (s := .own d) (v := v') ⟨upf_self.symm, by rw [ho.cells1], ho.oneC⟩⟩
end
end Go.Rx
namespace Go.Rx
open Go Go.Sx Go.RowKit
variable [Trk] [Sg] [Sf] {P : Program} [Se P]
variable [Anch]
section
variable {w0 w w' : World} {Mu M : List Nat} {σ : AS} {L : Env} {S : List Res} {ρ : Nat → Value} {γ : Nat → List Value} {μ : Nat → List Nat} {ι : Nat → Nat}
/-- All that is owned may be read, if nothing of it is written. -/
theorem HS.lend (h : HS w0 Mu M σ L w S ρ γ μ ι) (I : List Nat) : RdR ρ γ (fnd σ.res) M w I := by
  have hr : ∀ J, Rds ρ (fnd σ.res) M w J := fun J i _ p c x hR => oc_lend h.hp [] (ι i) rfl (h.row i _ hR) (h.res i _ hR)
  have key : ∀ (n : Nat) (I : List Nat), RdN ρ γ (fnd σ.res) M w n I := by
    intro n
    induction n with
    | zero => exact fun I => hr I
    | succ n ih =>
      refine fun I => ⟨hr I, fun i _ e l hR => ?_⟩
      obtain ⟨b, h1, h2, h3, h4⟩ := h.rowAt hR
      exact ⟨ih _, b, h1, h.hp.lendC [] (ι i) rfl h4, OkL.adv (Adv.drop fun b hb => mem_mm.2 (.inr hb)) l h3⟩
  exact key 4 I
theorem owns_ofD : ∀ (t : Ty) (x : den t), owns (ofD t x) = []
  | .int _, _ | .bool, _ | .sl _, _ | .st _, _ | .arr _ _, _ | .mp _ _ _, _ => rfl
theorem owns_ofL : ∀ (l : List Ty) (x : tupT l), ownsLL (ofL l x) = []
  | [], _ => rfl
  | [t], x => by show owns (ofD t x) ++ [] = []; rw [owns_ofD t x]; rfl
  | t :: u :: l, x => by show owns (ofD t x.1) ++ ownsLL (ofL (u :: l) x.2) = []; rw [owns_ofD t x.1, owns_ofL (u :: l) x.2]; rfl
theorem cells_owns (s : SV) : ∀ i ∈ ownsLL (Rx.cellsOf s), i ∈ owns s := by
  cases s with
  | str n x => intro i hi; rw [show ownsLL (Rx.cellsOf (.str n x)) = [] from owns_ofL _ _] at hi; cases hi
  | agg l => exact fun i hi => hi
  | int _ _ | bool _ | dat _ _ | ary _ _ _ | own _ | ptr _ _ | ep _ _ _ _ _ | rp _ _ | fv _ _ _ | fn _ _ | nilS | raw _ | it _ _ | np _ _ | ap _ _ _ _ | undef | dead | tup _ =>
    intro i hi
    simp only [Rx.cellsOf, ownsLL, List.append_nil] at hi
    exact hi
theorem toPt_ok [Sl (P := P)] {R : Nat → Option AR} {M' : List Nat} (hM : ∀ b ∈ M', b ∈ M) {t : Ty} {s : SV} {x : den t} {v : Value} {n : Nat} (hr : RdN ρ γ R M' w (n + 1) (owns s)) (hd : toPt R t s = some x) (h : Ok ρ R M w s v) : PtOk M' w (.pt t) x v := by
  cases s with
  | rp u o =>
    cases o with
    | succ o => exact (noS hd).elim
    | zero =>
      have hd : toP R t (Rx.cellsOf u) = some x := hd
      obtain ⟨b, o0, y, vs, h1, h2, h3, h4⟩ := h
      have h5 := Ok.cellsOf u h3
      rw [h4] at h5
      exact ⟨b, o0, vs, h1, h2.adv (Adv.drop hM), toP_ok hM t (hr.1.mono (cells_owns u)) hd h5⟩
  | ptr i o =>
    cases o with
    | succ o => exact (noS hd).elim
    | zero =>
      cases hR : R i with
      | none =>
        have hd : (match R i with
          | some (.row _ c) => toP R t c
          | _ => none) = some x := hd
        rw [hR] at hd; exact (noS hd).elim
      | some a =>
        have hd : (match R i with
          | some (.row _ c) => toP R t c
          | _ => none) = some x := hd
        rw [hR] at hd
        cases a with
        | own _ _ _ => exact (noS hd).elim
        | row e c =>
          obtain ⟨h1, b, h2, h3, h4⟩ := hr.2 i (by simp [owns]) e c hR
          obtain ⟨b', h5, h6⟩ := h
          rw [h2] at h5; cases h5
          exact ⟨b, 0, γ i, h6, h3, toP_ok (fun _ hb => hb) t h1.rds hd h4⟩
  | np t' q =>
    cases q with
    | none => exact (noS hd).elim
    | some y =>
      have hd : castD t' t y = some x := hd
      obtain ⟨e, hx⟩ := castD_some hd
      subst e
      rcases h with ⟨h1, _⟩ | ⟨y', b, o, vs, h1, h2, h3, h4⟩
      · cases h1
      · cases h1
        have hx : y = x := hx
        subst hx
        exact ⟨b, o, vs, h2, h3.adv (Adv.drop hM), (enc t').adv h4 (Adv.drop hM)⟩
  | int _ _ | bool _ | dat _ _ | ary _ _ _ | own _ | str _ _ | agg _ | ep _ _ _ _ _ | fv _ _ _ | fn _ _ | nilS | raw _ | it _ _ | ap _ _ _ _ | undef | dead | tup _ => exact (noS hd).elim
end
/-! Closures as functions on data. -/
def joinP : (a : List Ty) → (ps : List Pt) → denP (a.map Pt.d) → denP ps → denP (a.map Pt.d ++ ps)
  | [], _, _, y => y
  | _ :: a, ps, x, y => (x.1, joinP a ps x.2 y)
theorem ArgsOk.join {M : List Nat} {w : World} : ∀ (a : List Ty) (ps : List Pt) {x : denP (a.map Pt.d)} {y : denP ps} {vs us : List Value}, ArgsOk M w (a.map Pt.d) x vs → ArgsOk M w ps y us → ArgsOk M w (a.map Pt.d ++ ps) (joinP a ps x y) (vs ++ us)
  | [], _, _, _, vs, us, h, h2 => by
    have h : vs = [] := h
    subst h; exact h2
  | t :: a, ps, x, y, vs, us, ⟨v, r, h1, h3, h4⟩, h2 => by
    subst h1
    exact ⟨v, r ++ us, rfl, h3, ArgsOk.join a ps h4 h2⟩
theorem curry_ok {M1 : List Nat} {w1 : World} {v : Value} {r : Ty} (ps : List Pt) (y : denP ps) : ∀ (a : List Ty) (f : denP (a.map Pt.d ++ ps) → Option (den r)) (vs : List Value),
    (∀ (x : denP (a.map Pt.d)) (as_ : List Value), ArgsOk M1 w1 (a.map Pt.d) x as_ → ∀ q, f (joinP a ps x y) = some q → CallsV P v (vs ++ as_) w1 fun e w2 => ∃ u, e = .returned u ∧ OkD M1 w2 r q u ∧ Ext w1 w2) →
    FnR P M1 w1 v a r (curry r a ps y f) vs
  | [], f, vs, h => fun q hq => by
    have := h () [] rfl q hq
    rwa [List.append_nil] at this
  | t :: a, f, vs, h => fun x u hu => curry_ok ps y a (fun z => f (x, z)) (vs ++ [u]) fun xs as_ has q hq => by
    have := h (x, xs) (u :: as_) ⟨u, as_, rfl, hu, has⟩ q hq
    rwa [List.append_assoc, List.singleton_append]
section
variable {w : World} {M M' : List Nat} {ρ : Nat → Value} {γ : Nat → List Value} {R : Nat → Option AR} {G : Gx}
theorem RdR.mono {I J : List Nat} (h : RdR ρ γ R M w J) (hs : ∀ i ∈ I, i ∈ J) : RdR ρ γ R M w I := RdN.mono h hs
/-- What lies in a variable of one cell. -/
theorem boxS_ok [Sl (P := P)] (hM : ∀ b ∈ M', b ∈ M) {s s' : SV} {v : Value} {n : Nat} (hr : RdN ρ γ R M' w (n + 1) (owns s)) (hb : boxS R s = some s') (h : Ok ρ R M w s v) : ∃ b o u vs, v = .pointer (some ⟨b, o, none⟩) ∧ RdC M' w b o vs ∧ (Ok ρ R M w s' u ∨ Ok ρ R M' w s' u) ∧ u.cells = List.toArray vs ∧ RdN ρ γ R M' w n (owns s') := by
  have dn : ∀ {n : Nat} {I : List Nat}, RdN ρ γ R M' w (n + 1) I → RdN ρ γ R M' w n I := by
    intro n
    induction n with
    | zero => exact fun h => h.1
    | succ n ih => exact fun h => ⟨h.1, fun i hi e l hR => by
        obtain ⟨h0, h1⟩ := h.2 i hi e l hR
        exact ⟨ih h0, h1⟩⟩
  cases s with
  | rp u o =>
    have hb : (match (generalizing := false) o, Rx.cellsOf u with
      | 0, [s] => some s
      | _, _ => none) = some s' := hb
    cases o with
    | succ o => exact (noS hb).elim
    | zero =>
      cases hc : Rx.cellsOf u with
      | nil => rw [hc] at hb; exact (noS hb).elim
      | cons s1 r => cases r with
        | cons _ _ => rw [hc] at hb; exact (noS hb).elim
        | nil =>
          rw [hc] at hb
          have hb : s1 = s' := Option.some.inj hb
          subst hb
          obtain ⟨b, o0, y, vs, h1, h2, h3, h4⟩ := h
          have h5 := Ok.cellsOf u h3
          rw [hc, h4] at h5
          obtain ⟨y', h6, h7⟩ := OkL.one h5
          refine ⟨b, o0, y', vs, h1, h2.adv (Adv.drop hM), .inl h7, ?_, (dn hr).mono fun i hi => ?_⟩
          · rw [show vs = y'.cells.toList by simpa using h6]
          · exact cells_owns u i (by rw [hc]; show i ∈ owns s1 ++ []; rw [List.append_nil]; exact hi)
  | ptr i o =>
    have hb : (match (generalizing := false) o, R i with
      | 0, some (.row _ [s]) => some s
      | _, _ => none) = some s' := hb
    cases o with
    | succ o => exact (noS hb).elim
    | zero =>
      cases hR : R i with
      | none => rw [hR] at hb; exact (noS hb).elim
      | some a =>
        rw [hR] at hb
        cases a with
        | own _ _ _ => exact (noS hb).elim
        | row e c =>
          cases c with
          | nil => exact (noS hb).elim
          | cons s1 r => cases r with
            | cons _ _ => exact (noS hb).elim
            | nil =>
              have hb : s1 = s' := Option.some.inj hb
              subst hb
              obtain ⟨h1, b, h2, h3, h4⟩ := hr.2 i (by simp [owns]) e _ hR
              obtain ⟨b', h5, h6⟩ := h
              rw [h2] at h5; cases h5
              obtain ⟨y', h7, h8⟩ := OkL.one h4
              exact ⟨b, 0, y', γ i, h6, h3, .inr h8, by rw [h7], h1.mono fun j hj => by show j ∈ owns s1 ++ []; rw [List.append_nil]; exact hj⟩
  | np _ _ | int _ _ | bool _ | dat _ _ | ary _ _ _ | own _ | str _ _ | agg _ | ep _ _ _ _ _ | fv _ _ _ | fn _ _ | nilS | raw _ | it _ _ | ap _ _ _ _ | undef | dead | tup _ => exact (noS hb).elim
theorem toNp_ok [Sl (P := P)] (hM : ∀ b ∈ M', b ∈ M) {t : Ty} {s : SV} {x : Option (den t)} {v : Value} {n : Nat} (hr : RdN ρ γ R M' w (n + 1) (owns s)) (hd : toNp R t s = some x) (h : Ok ρ R M w s v) : NpOk M' w t x v := by
  have key : ∀ {s : SV} {x : Option (den t)}, RdN ρ γ R M' w (n + 1) (owns s) → (match toPt R t s with
      | some x => some (some x)
      | none => none) = some x → Ok ρ R M w s v → NpOk M' w t x v := fun {s x} hr hd h => by
    cases hp : toPt R t s with
    | none => rw [hp] at hd; exact (noS hd).elim
    | some y =>
      rw [hp] at hd
      have hd : some y = x := Option.some.inj hd
      subst hd
      obtain ⟨b, o, vs, h1, h2, h3⟩ := toPt_ok hM hr hp h
      exact .inr ⟨y, b, o, vs, rfl, h1, h2, h3⟩
  cases s with
  | np t' q =>
    have hd : (if h : t' = t then some (h ▸ q) else none) = some x := hd
    split at hd
    · rename_i e
      subst e
      have hd : q = x := Option.some.inj hd
      subst hd
      exact NpOk.mon hM h
    · exact (noS hd).elim
  | rp u o => exact key hr hd h
  | ptr i o => exact key hr hd h
  | int _ _ | bool _ | dat _ _ | ary _ _ _ | own _ | str _ _ | agg _ | ep _ _ _ _ _ | fv _ _ _ | fn _ _ | nilS | raw _ | it _ _ | ap _ _ _ _ | undef | dead | tup _ => exact (noS hd).elim
theorem toB_ok [Sl (P := P)] (hM : ∀ b ∈ M', b ∈ M) : ∀ (b : Bool) {t : Ty} {s : SV} {x : denB b t} {v : Value} {n : Nat}, RdN ρ γ R M' w (n + 2) (owns s) → toB R b t s = some x → Ok ρ R M w s v → BOk M' w b t x v
  | false, t, s, x, v, n, hr, hd, h => toPt_ok hM hr hd h
  | true, t, s, x, v, n, hr, hd, h => by
    have hd : (match boxS R s with
      | some s' => toNp R t s'
      | none => none) = some x := hd
    cases hb : boxS R s with
    | none => rw [hb] at hd; exact (noS hd).elim
    | some s' =>
      rw [hb] at hd
      obtain ⟨b, o, u, vs, h1, h2, h3, h4, h5⟩ := boxS_ok hM hr hb h
      have h6 : NpOk M' w t x u := h3.elim (fun h3 => toNp_ok hM h5 hd h3) fun h3 => toNp_ok (fun _ hb => hb) h5 hd h3
      have h7 : vs = [u] := by
        have := h4.symm.trans (NpOk.one h6).1
        simpa using this
      exact ⟨b, o, u, h1, h7 ▸ h2, h6⟩
theorem toBs_ok [Sl (P := P)] (hM : ∀ b ∈ M', b ∈ M) {n : Nat} : ∀ (cs : List (Bool × Ty)) (ss : List SV) {x : denBs cs} {vs : List Value}, RdN ρ γ R M' w (n + 2) (ownsLL ss) → toBs R cs ss = some x → OkV ρ R M w ss vs → BsOk M' w cs x vs
  | [], ss, x, vs, _, h, hk => by
    cases ss with
    | nil => exact hk
    | cons _ _ => exact (noS h).elim
  | (b, t) :: cs, ss, x, vs, hr, h, hk => by
    cases ss with
    | nil => exact (noS h).elim
    | cons s l =>
      obtain ⟨v, r, h1, h2, h3⟩ := hk
      have h : (match toB R b t s with
        | some x => match toBs R cs l with
          | some r => some (x, r)
          | none => none
        | none => none) = some x := h
      cases hx : toB R b t s with
      | none => rw [hx] at h; exact (noS h).elim
      | some y =>
        rw [hx] at h
        cases hy : toBs R cs l with
        | none => rw [hy] at h; exact (noS h).elim
        | some z =>
          rw [hy] at h
          have h : (y, z) = x := Option.some.inj h
          subst h
          exact ⟨v, r, h1, toB_ok hM b (hr.mono fun i hi => List.mem_append_left _ hi) hx h2, toBs_ok hM cs l (hr.mono fun i hi => List.mem_append_right _ hi) hy h3⟩
theorem toCl_ok [Sl (P := P)] (hM : ∀ b ∈ M', b ∈ M) {g : Nat} {cs : List (Bool × Ty)} {s : SV} {x : denBs cs} {v : Value} {n : Nat} (hr : RdN ρ γ R M' w (n + 3) (owns s)) (hd : toCl R g cs s = some x) (h : Ok ρ R M w s v) : PtOk M' w (.cl g cs) x v := by
  unfold toCl at hd
  cases hb : boxS R s with
  | none => rw [hb] at hd; exact (noS hd).elim
  | some s' =>
    rw [hb] at hd
    obtain ⟨b, o, u, vs, h1, h2, h3, h4, h5⟩ := boxS_ok hM hr hb h
    cases s' with
    | fn g' l =>
      have hd : (match (generalizing := false) Nat.beq g' g with
        | true => toBs R cs l
        | false => none) = some x := hd
      cases hg : Nat.beq g' g with
      | false => rw [hg] at hd; exact (noS hd).elim
      | true =>
        rw [hg] at hd
        have hd9 : toBs R cs l = some x := hd
        clear hd
        have e := Nat.eq_of_beq_eq_true hg
        subst e
        have h6 : ∃ caps, u = .func (.func g') #[] (List.toArray caps) ∧ BsOk M' w cs x caps := by
          rcases h3 with ⟨caps, h6, h7⟩ | ⟨caps, h6, h7⟩
          · exact ⟨caps, h6, toBs_ok hM cs l h5 hd9 h7⟩
          · exact ⟨caps, h6, toBs_ok (fun _ hb => hb) cs l h5 hd9 h7⟩
        obtain ⟨caps, rfl, h7⟩ := h6
        have h8 : vs = [.func (.func g') #[] (List.toArray caps)] := by
          have : (#[Value.func (.func g') #[] (List.toArray caps)] : Array Value) = List.toArray vs := h4
          simpa using (congrArg Array.toList this).symm
        exact ⟨b, o, caps, h1, h8 ▸ h2, h7⟩
    | np _ _ | int _ _ | bool _ | dat _ _ | ary _ _ _ | own _ | str _ _ | agg _ | ep _ _ _ _ _ | fv _ _ _ | nilS | raw _ | it _ _ | ap _ _ _ _ | undef | dead | tup _ | rp _ _ | ptr _ _ => exact (noS hd).elim
theorem cap1_ok [Sl (P := P)] (hM : ∀ b ∈ M', b ∈ M) (p : Pt) (s : SV) {x : p.den} {v : Value} (hr : RdR ρ γ R M' w (owns s)) (hx : cap1 R p s = some x) (h : Ok ρ R M w s v) : PtOk M' w p x v := by
  cases p with
  | d _ => exact (noS hx).elim
  | fn _ _ => exact (noS hx).elim
  | nl => exact (noS hx).elim
  | pt t => exact toPt_ok hM hr hx h
  | pp t => exact toB_ok hM true hr hx h
  | cl g cs => exact toCl_ok hM hr hx h
theorem capP_ok [Sl (P := P)] (hM : ∀ b ∈ M', b ∈ M) : ∀ (ps : List Pt) (ss : List SV) {y : denP ps} {vs : List Value}, RdR ρ γ R M' w (ownsLL ss) → capP R ps ss = some y → OkV ρ R M w ss vs → ArgsOk M' w ps y vs
  | [], ss, y, vs, _, h, hk => by
    cases ss with
    | nil => exact hk
    | cons _ _ => exact (noS h).elim
  | p :: ps, ss, y, vs, hr, h, hk => by
    cases ss with
    | nil => exact (noS h).elim
    | cons s l =>
      obtain ⟨v, r, h1, h2, h3⟩ := hk
      have h : (match cap1 R p s with
        | some x => match capP R ps l with
          | some r => some (x, r)
          | none => none
        | none => none) = some y := h
      cases hx : cap1 R p s with
      | none => rw [hx] at h; exact (noS h).elim
      | some x =>
        rw [hx] at h
        cases hy : capP R ps l with
        | none => rw [hy] at h; exact (noS h).elim
        | some z =>
          rw [hy] at h
          have h : (x, z) = y := Option.some.inj h
          subst h
          exact ⟨v, r, h1, cap1_ok hM p s (hr.mono fun i hi => List.mem_append_left _ hi) hx h2, capP_ok hM ps l (hr.mono fun i hi => List.mem_append_right _ hi) hy h3⟩
theorem BOk.adv {w' : World} (ha : Adv M M' w w') : ∀ {b : Bool} {t : Ty} {x : denB b t} {v : Value}, BOk M w b t x v → BOk M' w' b t x v
  | false, t, _, _, ⟨b, o, vs, h1, h2, h3⟩ => ⟨b, o, vs, h1, h2.adv ha, (enc t).adv h3 ha⟩
  | true, _, _, _, ⟨b, o, u, h1, h2, h3⟩ => ⟨b, o, u, h1, h2.adv ha, h3.adv ha⟩
theorem BsOk.adv {w' : World} (ha : Adv M M' w w') : ∀ {cs : List (Bool × Ty)} {x : denBs cs} {vs : List Value}, BsOk M w cs x vs → BsOk M' w' cs x vs
  | [], _, _, h => h
  | (_, _) :: _, _, _, ⟨v, r, h1, h2, h3⟩ => ⟨v, r, h1, h2.adv ha, BsOk.adv ha h3⟩
theorem PtOk.adv {w' : World} (ha : Adv M M' w w') : ∀ {p : Pt} {x : p.den} {v : Value}, PtOk M w p x v → PtOk M' w' p x v
  | .d _, _, _, h => OkD.adv h ha
  | .pt t, _, _, ⟨b, o, vs, h1, h2, h3⟩ => ⟨b, o, vs, h1, h2.adv ha, (enc t).adv h3 ha⟩
  | .fn _ _, _, _, h => ⟨FnOk.adv h.1 ha, h.2⟩
  | .pp t, x, v, h => BOk.adv (b := true) ha h
  | .nl, _, _, h => h
  | .cl _ _, _, _, ⟨b, o, caps, h1, h2, h3⟩ => ⟨b, o, caps, h1, h2.adv ha, h3.adv ha⟩
theorem ArgsOk.adv {w' : World} (ha : Adv M M' w w') : ∀ {ps : List Pt} {x : denP ps} {vs : List Value}, ArgsOk M w ps x vs → ArgsOk M' w' ps x vs
  | [], _, _, h => h
  | _ :: _, _, _, ⟨v, r, h1, h2, h3⟩ => ⟨v, r, h1, h2.adv ha, ArgsOk.adv ha h3⟩
theorem closF_ok [Sl (P := P)] (hG : GxOk P G) (hM : ∀ b ∈ M', b ∈ M) {g : Nat} {caps : List SV} {a : List Ty} {r : Ty} {F : denF a r} {vs : List Value} (hr : RdR ρ γ R M' w (ownsLL caps)) (hc : closF G R g caps a r = some F) (h : OkV ρ R M w caps vs) : FnOk M' w (.func (.func g) #[] (List.toArray vs)) a r F := by
  unfold closF at hc
  cases hf : fnd G.fs g with
  | none => rw [hf] at hc; exact (noS hc).elim
  | some c =>
    rw [hf] at hc
    obtain ⟨hok, hen⟩ := FsOk.at hG.fs hf
    obtain ⟨ps, rs, f⟩ := c
    simp only at hc
    generalize ps.drop a.length = cps at hc
    unfold mkClos2 at hc
    cases hy : capP R cps caps with
    | none => rw [hy] at hc; exact (noS hc).elim
    | some y =>
      rw [hy] at hc
      simp only [mkClos] at hc
      split at hc
      · rename_i he
        obtain ⟨h1, h2⟩ := he
        subst h1; subst h2
        have hc := Option.some.inj hc
        subst hc
        have hcap := capP_ok hM cps caps hr hy h
        intro M1 w1 hA hL
        refine curry_ok cps y a _ [] fun xs as_ has q hq => ?_
        have hcall := hok.2 M1 w1 (joinP a cps xs y) (as_ ++ vs) q hL (ArgsOk.join a cps has (hcap.adv hA)) hq
        refine CallsV.go hen rfl hcall ?_
        rintro e w2 ⟨us, rfl, hk, hx⟩
        obtain ⟨u, rfl, hu⟩ := hk
        exact ⟨u, rfl, hu, hx⟩
      · exact (noS hc).elim
end
end Go.Rx
namespace Go.Rx
open Go Go.Sx Go.RowKit
variable [Trk] [Sg] [Sf] {P : Program} [Se P]
section
variable {w : World} {M M' : List Nat} {ρ : Nat → Value} {γ : Nat → List Value} {R : Nat → Option AR} {G : Gx}
theorem castF_some {a a' : List Ty} {r r' : Ty} {f : denF a r} {g : denF a' r'} (h : castF a a' r r' f = some g) : ∃ (e1 : a = a') (e2 : r = r'), e1 ▸ e2 ▸ f = g := by
  unfold castF at h
  split at h
  · rename_i e; exact ⟨e.1, e.2, Option.some.inj h⟩
  · cases h
theorem arg1_ok [Sl (P := P)] (hG : GxOk P G) (hM : ∀ b ∈ M', b ∈ M) (p : Pt) (s : SV) {x : p.den} {v : Value} (hr : RdR ρ γ R M' w (owns s)) (hx : arg1 G R p s = some x) (h : Ok ρ R M w s v) : PtOk M' w p x v := by
  cases p with
  | d t => exact toD_ok hM t s hr.1 hx h
  | pt t => exact toPt_ok hM hr hx h
  | pp t => exact toB_ok hM true hr hx h
  | cl g cs => exact toCl_ok hM hr hx h
  | nl =>
    cases s with
    | nilS => exact h
    | int _ _ | bool _ | dat _ _ | ary _ _ _ | own _ | str _ _ | agg _ | ep _ _ _ _ _ | rp _ _ | ptr _ _ | fv _ _ _ | fn _ _ | raw _ | it _ _ | np _ _ | ap _ _ _ _ | undef | dead | tup _ => exact (noS hx).elim
  | fn a r =>
    cases s with
    | fv a' r' f =>
      have hx : castF a' a r' r f = some x := hx
      obtain ⟨e1, e2, hx⟩ := castF_some hx
      subst e1; subst e2
      have hx : f = x := hx
      subst hx
      exact ⟨FnOk.adv h.1 (Adv.drop hM), h.2⟩
    | fn g caps =>
      have hx : closF G R g caps a r = some x := hx
      obtain ⟨vs, rfl, h1⟩ := h
      exact ⟨closF_ok hG hM hr hx h1, rfl, rfl⟩
    | int _ _ | bool _ | dat _ _ | ary _ _ _ | own _ | str _ _ | agg _ | ep _ _ _ _ _ | rp _ _ | ptr _ _ | nilS | raw _ | it _ _ | np _ _ | ap _ _ _ _ | undef | dead | tup _ => exact (noS hx).elim
theorem argsD_ok [Sl (P := P)] (hG : GxOk P G) (hM : ∀ b ∈ M', b ∈ M) : ∀ (ps : List Pt) (ss : List SV) {y : denP ps} {vs : List Value}, RdR ρ γ R M' w (ownsLL ss) → argsD G R ps ss = some y → OkV ρ R M w ss vs → ArgsOk M' w ps y vs
  | [], ss, y, vs, _, h, hk => by
    cases ss with
    | nil => exact hk
    | cons _ _ => exact (noS h).elim
  | p :: ps, ss, y, vs, hr, h, hk => by
    cases ss with
    | nil => exact (noS h).elim
    | cons s l =>
      obtain ⟨v, r, h1, h2, h3⟩ := hk
      have h : (match arg1 G R p s with
        | some x => match argsD G R ps l with
          | some r => some (x, r)
          | none => none
        | none => none) = some y := h
      cases hx : arg1 G R p s with
      | none => rw [hx] at h; exact (noS h).elim
      | some x =>
        rw [hx] at h
        cases hy : argsD G R ps l with
        | none => rw [hy] at h; exact (noS h).elim
        | some z =>
          rw [hy] at h
          have h : (x, z) = y := Option.some.inj h
          subst h
          exact ⟨v, r, h1, arg1_ok hG hM p s (hr.mono fun i hi => List.mem_append_left _ hi) hx h2, argsD_ok hG hM ps l (hr.mono fun i hi => List.mem_append_right _ hi) hy h3⟩
theorem OkV.app : ∀ {ss tt : List SV} {vs us : List Value}, OkV ρ R M w ss vs → OkV ρ R M w tt us → OkV ρ R M w (ss ++ tt) (vs ++ us)
  | [], _, vs, _, h, h2 => by
    have h : vs = [] := h
    subst h; exact h2
  | _ :: _, _, _, _, ⟨u, r, h1, h2, h3⟩, h4 => ⟨u, r ++ _, by rw [h1]; rfl, h2, OkV.app h3 h4⟩
theorem tup_ok : ∀ {ss : List SV} {vs : List Value}, OkV ρ R M w ss vs → Ok ρ R M w (tupS ss) (tupV vs)
  | [], vs, h => by
    have h : vs = [] := h
    subst h; exact ⟨[], rfl, rfl⟩
  | [s], vs, ⟨u, r, h1, h2, h3⟩ => by
    have h3 : r = [] := h3
    subst h3; subst h1; exact h2
  | s :: t :: l, vs, ⟨u, r, h1, h2, u', r', h3, h4, h5⟩ => by
    subst h3; subst h1
    exact ⟨u :: u' :: r', rfl, u, _, rfl, h2, u', r', rfl, h4, h5⟩
end
/-! Results. -/
section
variable {w w' : World} {Mm Mo : List Nat}
theorem resS_2 {id : Nat} {c e : Ck} {l : List Ck} {x : denK (c :: e :: l)} : resS id (c :: e :: l) x = ((resC id c x.1).1 :: (resS (id + 100000) (e :: l) x.2).1, (resC id c x.1).2 ++ (resS (id + 100000) (e :: l) x.2).2) := rfl
/-- Results that are data. -/
theorem res_d : ∀ (rs : List Ck) {r : denK rs} {vs : List Value} (id : Nat), own1 rs = 0 → KsOk (P := P) Mm Mo w w' rs r vs → (resS id rs r).2 = [] ∧ obK rs vs = [] ∧ ∀ (ρ : Nat → Value) R M', (∀ b ∈ M', b ∈ Mo) → OkV (P := P) ρ R M' w' (resS id rs r).1 vs
  | [], r, vs, id, _, h => by
    have h : vs = [] := h
    subst h; exact ⟨rfl, rfl, fun _ _ _ _ => rfl⟩
  | [c], r, vs, id, h0, h => by
    obtain ⟨v, rfl, h⟩ := h
    cases c with
    | d t => exact ⟨rfl, rfl, fun ρ R M' hM => ⟨v, [], rfl, ofD_ok t (OkD.mon hM h), rfl⟩⟩
    | own _ => cases h0
    | undef => exact h.elim
    | it ts => exact ⟨rfl, rfl, fun ρ R M' hM => ⟨v, [], rfl, ⟨ItV.mon hM h.1, h.2⟩, rfl⟩⟩
    | np t => exact ⟨rfl, rfl, fun ρ R M' hM => ⟨v, [], rfl, NpOk.mon hM h, rfl⟩⟩
  | c :: e :: l, r, vs, id, h0, h => by
    obtain ⟨v, q, rfl, h, h1⟩ := h
    cases c with
    | d t =>
      obtain ⟨h2, h3, h4⟩ := res_d (e :: l) (id + 100000) h0 h1
      rw [resS_2]
      exact ⟨by show [] ++ _ = []; rw [h2]; rfl, h3, fun ρ R M' hM => ⟨v, q, rfl, ofD_ok t (OkD.mon hM h), h4 ρ R M' hM⟩⟩
    | own _ => cases h0
    | undef => exact h.elim
    | it ts =>
      obtain ⟨h2, h3, h4⟩ := res_d (e :: l) (id + 100000) h0 h1
      rw [resS_2]
      exact ⟨by show [] ++ _ = []; rw [h2]; rfl, h3, fun ρ R M' hM => ⟨v, q, rfl, ⟨ItV.mon hM h.1, h.2⟩, h4 ρ R M' hM⟩⟩
    | np t =>
      obtain ⟨h2, h3, h4⟩ := res_d (e :: l) (id + 100000) h0 h1
      rw [resS_2]
      exact ⟨by show [] ++ _ = []; rw [h2]; rfl, h3, fun ρ R M' hM => ⟨v, q, rfl, NpOk.mon hM h, h4 ρ R M' hM⟩⟩
/-- Numbers hang on no memory. -/
theorem res_plain : ∀ (rs : List Ck) {r : denK rs} {vs : List Value} (id : Nat), plainB rs = true → KsOk (P := P) Mm Mo w w' rs r vs → (resS id rs r).2 = [] ∧ ∀ (ρ : Nat → Value) R M', OkV (P := P) ρ R M' w' (resS id rs r).1 vs
  | [], r, vs, id, _, h => by
    have h : vs = [] := h
    subst h; exact ⟨rfl, fun _ _ _ => rfl⟩
  | [c], r, vs, id, h0, h => by
    obtain ⟨v, rfl, h⟩ := h
    cases c with
    | d t =>
      cases t with
      | int k => exact ⟨rfl, fun ρ R M' => ⟨v, [], rfl, ofD_ok (ρ := ρ) (R := R) (.int k) h, rfl⟩⟩
      | bool => exact ⟨rfl, fun ρ R M' => ⟨v, [], rfl, ofD_ok (ρ := ρ) (R := R) .bool h, rfl⟩⟩
      | _ => cases h0
    | own _ => cases h0
    | undef => exact h.elim
    | it _ => cases h0
    | np _ => cases h0
  | c :: e :: l, r, vs, id, h0, h => by
    obtain ⟨v, q, rfl, h, h1⟩ := h
    cases c with
    | d t =>
      cases t with
      | int k =>
        obtain ⟨h2, h4⟩ := res_plain (e :: l) (id + 100000) h0 h1
        rw [resS_2]
        exact ⟨by show [] ++ _ = []; rw [h2]; rfl, fun ρ R M' => ⟨v, q, rfl, ofD_ok (ρ := ρ) (R := R) (.int k) h, h4 ρ R M'⟩⟩
      | bool =>
        obtain ⟨h2, h4⟩ := res_plain (e :: l) (id + 100000) h0 h1
        rw [resS_2]
        exact ⟨by show [] ++ _ = []; rw [h2]; rfl, fun ρ R M' => ⟨v, q, rfl, ofD_ok (ρ := ρ) (R := R) .bool h, h4 ρ R M'⟩⟩
      | _ => cases h0
    | own _ => cases h0
    | undef => exact h.elim
    | it _ => cases h0
    | np _ => cases h0
end
section
variable [Anch]
variable {w0 w w' : World} {Mu M Mo : List Nat} {σ : AS} {L : Env} {S : List Res} {ρ : Nat → Value} {γ : Nat → List Value} {μ : Nat → List Nat} {ι : Nat → Nat} {d : Option Nat}
/-- A new slice, as the contracts say it. -/
theorem own_ck {M Mo : List Nat} {w w' : World} {t : Nat} {u : Ty} {x : List (den u)} {v : Value} (h : Sx.Own (enc (P := P) u) t 0 M w' v x ∧ ∀ b ∈ ob v, w.heap.size ≤ b) : CkOk (P := P) M Mo w w' (.own (.sl t u)) x v :=
  ⟨trivial, h.1.mon (fun _ hb => List.mem_append.1 hb), h.2⟩
theorem res_new (h : HS w0 Mu M σ L w S ρ γ μ ι) (e : Ext w w') {i : Nat} {c : Oc} {x : den c.ty} {v : Value} (hv : Hnd v c ∧ (ocR (P := P) [] v c x).holds (obO c v ++ mm S M) w' ∧ ∀ b ∈ obO c v, w.heap.size ≤ b) :
    HS w0 Mu M (apps d [.new i (.own false c x)] σ) L w' (ocR [] v c x :: S) (upf ρ i v) (upf γ i []) (upf μ i []) (fun j => if j = i then 0 else ι j + 1) ∧ ∀ R, Ok (upf ρ i v) R (mm (ocR (P := P) [] v c x :: S) M) w' (.own i) v := by
  obtain ⟨hv1, hv2, hv3⟩ := hv
  have hn : ∀ b ∈ (ocR (P := P) [] v c x).fp, w.heap.size ≤ b ∧ b < w'.heap.size := fun b hb => ⟨hv3 b (by rw [ocR_fp] at hb; exact hb), (ocR (P := P) [] v c x).lt hv2 b hb⟩
  have hh : (ocR (P := P) [] v c x).holds (mm (ocR (P := P) [] v c x :: S) M) w' := by
    show (ocR (P := P) [] v c x).holds ((ocR (P := P) [] v c x).fp ++ mm S M) w'
    rw [ocR_fp]; exact hv2
  have hp := h.hp.add e hn ocR_mu hh
  have h9 := h.new (i := i) (r := .own false c x) (v := v) (cs := []) (mu := []) hp (h.hp.addA e hn) hv1
  obtain ⟨g1, g2⟩ := oc_one hv1 hh
  exact ⟨h9, fun R => ⟨upf_self.symm, g1, g2⟩⟩
theorem res_ok (h : HS w0 Mu M σ L w S ρ γ μ ι) (e : Ext w w') : ∀ (rs : List Ck) {r : denK rs} {vs : List Value} (id : Nat), own1 rs ≤ 1 → KsOk (mm S M) Mo w w' rs r vs → (∀ b ∈ obK rs vs ++ mm S M, b ∈ Mo) →
    ∃ S' ρ' γ' μ' ι', HS w0 Mu M (apps d (resS id rs r).2 σ) L w' S' ρ' γ' μ' ι' ∧ (∀ b ∈ mm S' M, b ∈ Mo) ∧ OkV ρ' (fnd (apps d (resS id rs r).2 σ).res) (mm S' M) w' (resS id rs r).1 vs
  | [], r, vs, id, _, hk, hM => ⟨S, ρ, γ, μ, ι, h.ext e, hM, hk⟩
  | [c], r, vs, id, _, hk, hM => by
    obtain ⟨v, rfl, hk⟩ := hk
    cases c with
    | d t => exact ⟨S, ρ, γ, μ, ι, h.ext e, hM, v, [], rfl, ofD_ok t (OkD.mon hM hk), rfl⟩
    | own et =>
      obtain ⟨h1, h2⟩ := res_new (d := d) h e (i := id) hk
      refine ⟨_, _, _, _, _, h1, fun b hb => hM b ?_, v, [], rfl, h2 _, rfl⟩
      rcases List.mem_append.1 (show b ∈ (ocR (P := P) [] v et r).fp ++ mm S M from hb) with hb | hb
      · exact List.mem_append_left _ (List.mem_append_left _ (ocR_mem hb))
      · exact List.mem_append_right _ hb
    | undef => exact hk.elim
    | it ts => exact ⟨S, ρ, γ, μ, ι, h.ext e, hM, v, [], rfl, ⟨ItV.mon hM hk.1, hk.2⟩, rfl⟩
    | np t => exact ⟨S, ρ, γ, μ, ι, h.ext e, hM, v, [], rfl, NpOk.mon hM hk, rfl⟩
  | c :: c2 :: l, r, vs, id, h0, hk, hM => by
    obtain ⟨v, q, rfl, hk, hk2⟩ := hk
    rw [resS_2]
    cases c with
    | d t =>
      obtain ⟨S', ρ', γ', μ', ι', h1, h2, h3⟩ := res_ok h e (c2 :: l) (id + 100000) h0 hk2 hM
      exact ⟨S', ρ', γ', μ', ι', h1, h2, v, q, rfl, ofD_ok t (OkD.mon h2 hk), h3⟩
    | own et =>
      have h0 : own1 (c2 :: l) = 0 := by
        have : own1 (c2 :: l) + 1 ≤ 1 := h0
        omega
      obtain ⟨h2, h3, h4⟩ := res_d (c2 :: l) (id + 100000) h0 hk2
      obtain ⟨h5, h6⟩ := res_new (d := d) h e (i := id) hk
      have hs : ∀ b ∈ mm (ocR (P := P) [] v et r.1 :: S) M, b ∈ Mo := fun b hb => hM b (by
        rcases List.mem_append.1 (show b ∈ (ocR (P := P) [] v et r.1).fp ++ mm S M from hb) with hb | hb
        · exact List.mem_append_left _ (List.mem_append_left _ (ocR_mem hb))
        · exact List.mem_append_right _ hb)
      have he : (resC id (.own et) r.1).2 ++ (resS (id + 100000) (c2 :: l) r.2).2 = [.new id (.own false et r.1)] := by rw [h2]; rfl
      simp only [he]
      exact ⟨_, _, _, _, _, h5, hs, v, q, rfl, h6 _, h4 _ _ _ hs⟩
    | undef => exact hk.elim
    | it ts =>
      obtain ⟨S', ρ', γ', μ', ι', h1, h2, h3⟩ := res_ok h e (c2 :: l) (id + 100000) h0 hk2 hM
      exact ⟨S', ρ', γ', μ', ι', h1, h2, v, q, rfl, ⟨ItV.mon h2 hk.1, hk.2⟩, h3⟩
    | np t =>
      obtain ⟨S', ρ', γ', μ', ι', h1, h2, h3⟩ := res_ok h e (c2 :: l) (id + 100000) h0 hk2 hM
      exact ⟨S', ρ', γ', μ', ι', h1, h2, v, q, rfl, NpOk.mon h2 hk, h3⟩
variable {N : Nat} {ops : Array Oper} {ds : List Deferred} {B : Out} {X : Nat → Out} {Z : List PanicEntry → Out} {ty : TypeId} {pos : String} {af : Array Edge} {G : Gx}
theorem HS.frzO (h : HS w0 Mu M σ L w S ρ γ μ ι) {I : List Nat} {as_ : List Ac} (hf : Rx.frz (fnd σ.res) I = some as_) :
    ∃ S1 ι1, HS w0 Mu M (apps d as_ σ) L w S1 ρ γ μ ι1 ∧ RdR ρ γ (fnd σ.res) (mm S1 M) w I ∧ ∀ b ∈ mm S1 M, b ∈ mm S M := by
  rw [apps_del as_ σ (frz_only I hf)]
  exact frz_ok I (fnd σ.res) still_self h hf
/-- A call of a function that is known. -/
theorem call_main [Sl (P := P)] (h : HS w0 Mu M σ L w S ρ γ μ ι) (hG : GxOk P G) {f : Operand} {g id : Nat} {xs : List Operand} {caps ss ss' : List SV} {c : Ctr} {a : denP c.ps} {fz : List Ac} {r : denK c.rs} (hop : ∀ ρ R M w vs, OkV (P := P) ρ R M w (ss ++ caps) vs → OkV (P := P) ρ R M w ss' vs)
    (hf : evS σ.env f = some (.fn g caps)) (ha : evL (evS σ.env) xs = some ss) (hc : fnd G.fs g = some c) (hd : argsD G (fnd σ.res) c.ps ss' = some a) (hz : (bif plainB c.rs then some [] else frz (fnd σ.res) (ownsLL ss')) = some fz) (hF : c.F a = some r) :
    ∃ vf vs, Sx.ev L f = some vf ∧ evs L xs = some vs ∧ CallsV P vf vs w fun e w' => ∃ v, e = .returned v ∧ ∃ S' ρ' γ' μ' ι', HS w0 Mu M (apps d (fz ++ (resS id c.rs r).2) σ) L w' S' ρ' γ' μ' ι' ∧ Ok ρ' (fnd (apps d (fz ++ (resS id c.rs r).2) σ).res) (mm S' M) w' (tupS (resS id c.rs r).1) v := by
  obtain ⟨vf, h1, cv, rfl, h2⟩ := h.ev hf
  obtain ⟨av, h3, h4⟩ := h.evL ha
  obtain ⟨hok, hen⟩ := FsOk.at hG.fs hc
  refine ⟨_, _, h1, h3, ?_⟩
  cases hp : plainB c.rs with
  | true =>
    rw [hp, cond_true] at hz
    cases hz
    have hargs := argsD_ok hG (M' := M) (fun b hb => mem_mm.2 (.inr hb)) c.ps _ (h.lend _) hd (hop _ _ _ _ _ (OkV.app h4 h2))
    refine CallsV.go hen rfl (hok.2 M w a _ r (fun b hb => h.hp.mlt b (mem_mm.2 (.inr hb))) hargs hF) ?_
    rintro e w2 ⟨vs, rfl, hk, hx⟩
    obtain ⟨h5, h6⟩ := res_plain c.rs id hp hk
    rw [h5]
    exact ⟨_, rfl, S, ρ, γ, μ, ι, h.ext hx, tup_ok (h6 _ _ _)⟩
  | false =>
    rw [hp, cond_false] at hz
    obtain ⟨S1, ι1, h5, h6, h7⟩ := h.frzO (d := d) hz
    have hargs := argsD_ok hG (M' := mm S1 M) h7 c.ps _ h6 hd (hop _ _ _ _ _ (OkV.app h4 h2))
    refine CallsV.go hen rfl (hok.2 (mm S1 M) w a _ r h5.hp.mlt hargs hF) ?_
    rintro e w2 ⟨vs, rfl, hk, hx⟩
    obtain ⟨S', ρ', γ', μ', ι', h8, _, h9⟩ := res_ok (d := d) h5 hx c.rs id hok.1 hk (fun b hb => hb)
    rw [apps_app]
    exact ⟨_, rfl, S', ρ', γ', μ', ι', h8, tup_ok h9⟩
theorem c_call [Sl (P := P)] (h : HS w0 Mu M σ L w S ρ γ μ ι) (hG : GxOk P G) (hN : (match d with | some d => Nat.blt d N | none => true) = true) {f : Operand} {g id : Nat} {xs : Array Operand} {ts : Array TypeId} {caps ss ss' : List SV} {c : Ctr} {a : denP c.ps} {fz : List Ac} {r : denK c.rs} (hop : ∀ ρ R M w vs, OkV (P := P) ρ R M w (ss ++ caps) vs → OkV (P := P) ρ R M w ss' vs)
    (hf : evS σ.env f = some (.fn g caps)) (ha : evL (evS σ.env) xs.toList = some ss) (hc : fnd G.fs g = some c) (hd : argsD G (fnd σ.res) c.ps ss' = some a) (hz : (bif plainB c.rs then some [] else frz (fnd σ.res) (ownsLL ss')) = some fz) (hF : c.F a = some r) :
    Goes P N ops ds L w ⟨d, .call ⟨.value f, xs, ts⟩, ty, pos, af, none⟩ w0 Mu M (apps d (fz ++ (resS id c.rs r).2 ++ [.put (tupS (resS id c.rs r).1)]) σ) B X Z := by
  obtain ⟨vf, vs, h1, h2, h3⟩ := call_main (d := d) (id := id) h hG hop hf ha hc hd hz hF
  obtain ⟨xs⟩ := xs
  cases d with
  | some d =>
    refine s_callV h1 h2 hN (h3.mono ?_)
    rintro e w2 ⟨v, rfl, S', ρ', γ', μ', ι', h4, h5⟩
    rw [apps_app]
    exact ⟨v, rfl, h4.fin h5⟩
  | none =>
    refine s_callV0 h1 h2 (h3.mono ?_)
    rintro e w2 ⟨v, rfl, S', ρ', γ', μ', ι', h4, h5⟩
    rw [apps_app]
    exact ⟨v, rfl, Reg.nil ⟨rfl, EnvS.refl _ _, S', ρ', γ', μ', ι', h4⟩⟩
/-- A call of a function that came in. -/
theorem callF_ok [Sl (P := P)] {M' : List Nat} (hM : ∀ b ∈ M', b ∈ M) {R : Nat → Option AR} {v : Value} {r : Ty} : ∀ (a : List Ty) (f : denF a r) (ss : List SV) {vs vs0 : List Value} {o : Option (den r)}, FnR P M' w v a r f vs0 → callF r a f R ss = some o → OkV ρ R M w ss vs → Rds ρ R M' w (ownsLL ss) →
    ∀ y, o = some y → CallsV P v (vs0 ++ vs) w fun e w2 => ∃ u, e = .returned u ∧ OkD M' w2 r y u ∧ Ext w w2
  | [], f, ss, vs, vs0, o, hf, hc, hk, _ => by
    cases ss with
    | cons _ _ => exact (noS hc).elim
    | nil =>
      have hc : some f = some o := hc
      cases hc
      have hk : vs = [] := hk
      subst hk
      intro y hy
      rw [List.append_nil]
      exact hf y hy
  | t :: a, f, ss, vs, vs0, o, hf, hc, hk, hr => by
    cases ss with
    | nil => exact (noS hc).elim
    | cons s l =>
      obtain ⟨u, q, rfl, h1, h2⟩ := hk
      have hc : (match toD R t s with
        | some x => callF r a (f x) R l
        | none => none) = some o := hc
      cases hx : toD R t s with
      | none => rw [hx] at hc; exact (noS hc).elim
      | some x =>
        rw [hx] at hc
        intro y hy
        have h3 := toD_ok hM t s (hr.mono fun i hi => List.mem_append_left _ hi) hx h1
        have := callF_ok hM a (f x) l (hf x u h3) hc h2 (hr.mono fun i hi => List.mem_append_right _ hi) y hy
        rwa [List.append_assoc, List.singleton_append] at this
theorem c_callF [Sl (P := P)] (h : HS w0 Mu M σ L w S ρ γ μ ι) (hN : (match d with | some d => Nat.blt d N | none => true) = true) {f : Operand} {xs : Array Operand} {ts : Array TypeId} {ss : List SV} {a : List Ty} {r : Ty} {F : denF a r} {o : Option (den r)} {y : den r} {fz : List Ac}
    (hf : evS σ.env f = some (.fv a r F)) (ha : evL (evS σ.env) xs.toList = some ss) (hc : callF r a F (fnd σ.res) ss = some o) (hz : frz (fnd σ.res) (ownsLL ss) = some fz) (ho : o = some y) :
    Goes P N ops ds L w ⟨d, .call ⟨.value f, xs, ts⟩, ty, pos, af, none⟩ w0 Mu M (apps d (fz ++ [.put (ofD r y)]) σ) B X Z := by
  obtain ⟨vf, h1, h2⟩ := h.ev hf
  obtain ⟨vs, h3, h4⟩ := h.evL ha
  obtain ⟨S1, ι1, h5, h6, h7⟩ := h.frzO (d := d) hz
  have h8 := callF_ok h7 a F ss (h2.1 (mm S1 M) w (Adv.drop h7) h5.hp.mlt) hc h4 h6.1 y ho
  obtain ⟨xs⟩ := xs
  rcases d with _ | d
  case some =>
    refine s_callV h1 h3 hN (h8.mono ?_)
    rintro e w2 ⟨v, rfl, h9, hx⟩
    rw [apps_app]
    exact ⟨v, rfl, (h5.ext hx).fin (ofD_ok r h9)⟩
  case none =>
    refine s_callV0 h1 h3 (h8.mono ?_)
    rintro e w2 ⟨v, rfl, h9, hx⟩
    rw [apps_app]
    exact ⟨v, rfl, Reg.nil ⟨rfl, EnvS.refl _ _, S1, ρ, γ, μ, ι1, h5.ext hx⟩⟩
end
end Go.Rx
namespace Go.Rx
open Go Go.Sx Go.RowKit
variable [Trk] [Sg] [Sf] {P : Program} [Se P]
variable [Anch]
theorem szB_some {G : Gx} {t : Nat} {ns : List SV} (h : szB G t ns = true) : ∃ n, lk G.sz t = some n ∧ widths ns = some n := by
  unfold szB at h
  cases h1 : lk G.sz t with
  | none => rw [h1] at h; cases h
  | some n =>
    rw [h1] at h
    cases h2 : widths ns with
    | none => simp only [h2] at h; cases h
    | some m =>
      simp only [h2] at h
      have := Nat.eq_of_beq_eq_true h
      subst this; exact ⟨_, rfl, rfl⟩
theorem widB_some {ns : List SV} {n : Nat} (h : widB ns n = true) : widths ns = some n := by
  unfold widB at h
  cases h2 : widths ns with
  | none => rw [h2] at h; cases h
  | some m =>
    rw [h2] at h
    have := Nat.eq_of_beq_eq_true h
    subst this; rfl
theorem overL_owns : ∀ (ns l : List SV) {l' : List SV}, overL l ns = some l' → ∀ i ∈ ownsLL l', i ∈ ownsLL l ∨ i ∈ ownsLL ns
  | [], l, l', h, i, hi => by
    have h : some l = some l' := by cases l <;> exact h
    cases h; exact .inl hi
  | _ :: _, [], _, h, _, _ => (noS h).elim
  | n :: ns, s :: l, l', h, i, hi => by
    simp only [overL] at h
    cases hb : Nat.beq (wd s) (wd n) with
    | false => simp only [hb] at h; exact (noS h).elim
    | true =>
      simp only [hb] at h
      cases hw : wd n with
      | zero => simp only [hw] at h; exact (noS h).elim
      | succ m =>
        simp only [hw] at h
        cases hx : overL l ns with
        | none => simp only [hx] at h; exact (noS h).elim
        | some x =>
          simp only [hx] at h
          have h := Option.some.inj h
          subst h
          rcases List.mem_append.1 (show i ∈ owns n ++ ownsLL x from hi) with hi | hi
          · exact .inr (List.mem_append_left _ hi)
          · exact (overL_owns ns l hx i hi).imp (List.mem_append_right _) (List.mem_append_right _)
theorem setW_owns : ∀ (l : List SV) (o : Nat) {ns l' : List SV}, setW l o ns = some l' → ∀ i ∈ ownsLL l', i ∈ ownsLL l ∨ i ∈ ownsLL ns
  | l, 0, ns, l', h, i, hi => by
    have h : overL l ns = some l' := by cases l <;> exact h
    exact overL_owns ns l h i hi
  | [], _ + 1, _, _, h, _, _ => (noS h).elim
  | s :: l, o + 1, ns, l', h, i, hi => by
    simp only [setW] at h
    cases hw : wd s with
    | zero => simp only [hw] at h; exact (noS h).elim
    | succ n =>
      simp only [hw] at h
      cases hb : Nat.ble n o with
      | false => simp only [hb] at h; exact (noS h).elim
      | true =>
        simp only [hb] at h
        cases hx : setW l (o - n) ns with
        | none => simp only [hx] at h; exact (noS h).elim
        | some x =>
          simp only [hx] at h
          have h := Option.some.inj h
          subst h
          rcases List.mem_append.1 (show i ∈ owns s ++ ownsLL x from hi) with hi | hi
          · exact .inl (List.mem_append_left _ hi)
          · exact (setW_owns l (o - n) hx i hi).imp (List.mem_append_right _) id
section
variable {w0 w w' : World} {Mu M : List Nat} {σ : AS} {L : Env} {S : List Res} {ρ : Nat → Value} {γ : Nat → List Value} {μ : Nat → List Nat} {ι : Nat → Nat}
variable {N : Nat} {ops : Array Oper} {ds : List Deferred} {B : Out} {X : Nat → Out} {Z : List PanicEntry → Out} {d : Nat} {ty : TypeId} {pos : String} {af : Array Edge} {G : Gx}
theorem c_storeE [Sl (P := P)] (h : HS w0 Mu M σ L w S ρ γ μ ι) (hG : GxOk P G) {t i o e n : Nat} {p : Bool} {u : Ty} {ix : Int} {z z2 : den u} {xs m : List (den u)} {x y : Operand} {s : SV} {l' ns : List SV} {fz : List Ac} (hy : evS σ.env y = some s) (hs : storC s = some ns) (hx : evS σ.env x = some (.ep i u ix (some z) o)) (hi : fnd σ.res i = some (.own p (.sl e u) xs))
    (hw : setW (Rx.cellsOf (ofD u z)) o ns = some l') (hd : toP (fnd σ.res) u l' = some z2) (hf : frz (fnd σ.res) (ownsLL ns) = some fz) (hni : has (ownsLL ns) i = false) (hm : seto xs ix z2 = some m) (hz : lk G.sz t = some n) (hn : widths ns = some n) :
    Goes P N ops ds L w ⟨none, .store t x y, ty, pos, af, none⟩ w0 Mu M (apps none (fz ++ [.cnt i (.sl e u) m]) σ) B X Z := by
  obtain ⟨v, h1, h2⟩ := h.ev hy
  obtain ⟨h3, h4⟩ := storC_ok hs h2
  obtain ⟨av, h5, g, nn, cc, p', e', xs', h6, h7, h8, rfl, h9⟩ := h.ev hx
  rw [hi] at h7; cases h7
  have hz1 := h9 z rfl
  obtain ⟨S1, ι1, k1, k2, k3⟩ := h.frzO (d := none) hf
  have k4 : fnd (apps none fz σ).res i = some (.own p (.sl e u) xs) := del_own fz σ (fun a ha => by
    obtain ⟨j, hj, q, rfl⟩ := frz_ids _ hf a ha
    exact ⟨j, q, rfl, fun e => by subst e; rw [has_iff.2 hj] at hni; cases hni⟩) hi
  have k5 := k1.res i _ k4
  have ho0 := h.ownAt hi
  have ho := k1.ownAt k4
  obtain ⟨g', cap, cur, k6, k7, _⟩ := ho.at_ (by have := h8.1; have := h8.2; omega)
  rw [h6] at k6; cases k6
  obtain ⟨cs, k8, k9⟩ := ho.cellsAt k7 (ixo_out hz1).2.2
  obtain ⟨cs0, j8, j9⟩ := ho0.cellsAt k7 (ixo_out hz1).2.2
  have hcs : cs0 = cs := by
    have e1 := (enc u).len j8
    have e2 := (enc u).len k8
    refine List.ext_getElem? fun q => ?_
    rcases Nat.lt_or_ge q cs.length with hq | hq
    · obtain ⟨a, ha⟩ : ∃ a, cs[q]? = some a := ⟨cs[q], by simp [hq]⟩
      obtain ⟨b, hb⟩ : ∃ b, cs0[q]? = some b := ⟨cs0[q]'(by omega), by rw [List.getElem?_eq_getElem]⟩
      have f1 := k9 q a ha
      have f2 := j9 q b hb
      rw [f1] at f2
      rw [ha, hb]; cases f2; rfl
    · rw [List.getElem?_eq_none hq, List.getElem?_eq_none (by omega)]
  subst hcs
  obtain ⟨y0, q1, q2⟩ := OkD.of_cells j8
  have q3 := Ok.cellsOf (ρ := ρ) (R := fnd σ.res) (ofD u z) (ofD_ok u q1)
  rw [q2] at q3
  obtain ⟨q4, q5⟩ := setW_ok _ o hw q3 h3
  rw [← setAt_eq _ _ _ q4] at q5
  have how : ∀ j ∈ ownsLL l', j ∈ ownsLL ns := fun j hj => (setW_owns _ o hw j hj).elim (fun h => by
    have hce := cells_owns (ofD u z) j h
    rw [owns_ofD] at hce; cases hce) id
  have q6 := toP_ok k3 u (k2.1.mono how) hd q5
  refine y_sto (ι1 i) (vs := v.cells.toList) k1.hp k5 h5 h1 (by simp) k7 hm k8 k9 q6 (Nat.ble_eq_true_of_le q4) (SzOk.at hG.sz hz) (widths_len ns hn h3) (storL_one ns h4 h3) fun w' hp hA => ?_
  refine Reg.nil ⟨rfl, EnvS.refl _ _, ?_⟩
  rw [apps_app]
  have hgg : cntR (.sl e u) m (.own p (.sl e u) xs) = .own p (.sl e u) m := by simp only [cntR, castO, dif_pos]
  exact ⟨_, _, _, _, _, k1.upd (r := .own p (.sl e u) m) (cs := γ i) (g := cntR (.sl e u) m) (c := [0]) k4 hgg hp hA (fun p' e' t' ys he => by
    cases he
    obtain ⟨_, _, rfl⟩ := seto_out hm
    exact ⟨_, rfl, by simp⟩) trivial⟩
theorem fillS_ok [Sl (P := P)] {M : List Nat} {R : Nat → Option AR} {E : Operand → Option SV} (hE : ∀ x s, E x = some s → ∃ v, Sx.ev L x = some v ∧ Ok ρ R M w s v) (pl : List (Nat × Nat)) : ∀ (ps : List (Nat × Operand)) {l l' : List SV} {cs : List Value}, fillS pl E ps l = some l' → OkL ρ R M w l cs →
    ∃ vs css out, evs L (ps.map (·.2)) = some vs ∧ Cls vs css ∧ fillL pl cs ((ps.map (·.1)).zip css) = some out ∧ OkL ρ R M w l' out
  | [], l, l', cs, h, h1 => by
    have h : some l = some l' := h
    cases h
    exact ⟨[], [], cs, rfl, trivial, rfl, h1⟩
  | (i, x) :: r, l, l', cs, h, h1 => by
    simp only [fillS] at h
    cases h2 : nth pl i with
    | none => rw [h2] at h; exact (noS h).elim
    | some q =>
      obtain ⟨o, n⟩ := q
      rw [h2] at h
      cases h3 : E x with
      | none => simp only [h3] at h; exact (noS h).elim
      | some s =>
        simp only [h3] at h
        cases h4 : widB (Rx.cellsOf s) n with
        | false => simp only [h4] at h; exact (noS h).elim
        | true =>
          simp only [h4] at h
          cases h5 : setW l o (Rx.cellsOf s) with
          | none => simp only [h5] at h; exact (noS h).elim
          | some l1 =>
            simp only [h5] at h
            obtain ⟨v, h6, h7⟩ := hE x s h3
            have h8 := Ok.cellsOf s h7
            obtain ⟨h9, h10⟩ := setW_ok l o h5 h1 h8
            rw [← setAt_eq _ _ _ h9] at h10
            obtain ⟨vs, css, out, h11, h12, h13, h14⟩ := fillS_ok hE pl r h h10
            refine ⟨v :: vs, v.cells.toList :: css, out, by simp only [List.map_cons, evs, h6, h11], ⟨by simp, h12⟩, ?_, h14⟩
            rw [nth_eq] at h2
            simp only [List.map_cons, List.zip_cons_cons, fillL, h2, widths_len _ (widB_some h4) h8, true_and]
            rw [if_pos (by rw [← widths_len _ (widB_some h4) h8]; exact h9)]
            exact h13
theorem c_build [Sl (P := P)] (h : HS w0 Mu M σ L w S ρ γ μ ι) (hG : GxOk P G) (hN : Nat.blt d N = true) {t : Nat} {pl : List (Nat × Nat)} {ps : Array (Nat × Operand)} {l l' : List SV} {E : Operand → Option SV} (hE : ∀ x s, E x = some s → evS σ.env x = some s) (hp : lk G.bd t = some pl) (hz : zeroS G t = some (.agg l)) (hf : fillS pl E ps.toList l = some l') :
    Goes P N ops ds L w ⟨some d, .build t ps, ty, pos, af, none⟩ w0 Mu M (apps (some d) [.put (.agg l')] σ) B X Z := by
  obtain ⟨z, h1, zc, rfl, h2⟩ := zeroS_ok (ρ := ρ) (M := mm S M) (w := w) (R := fnd σ.res) hG hz
  obtain ⟨fields, h3, h4⟩ := BdOk.at hG.bd hp
  obtain ⟨vs, css, out, h5, h6, h7, h8⟩ := fillS_ok (fun x s hx => h.ev (hE x s hx)) pl ps.toList hf h2
  obtain ⟨ps⟩ := ps
  exact s_bd pl h1 rfl h3 h4 h5 h6 h7 hN (h.fin ⟨out, rfl, h8⟩)
end
end Go.Rx
namespace Go.Rx
open Go Go.Sx Go.RowKit
variable [Trk] [Sg] [Sf] {P : Program} [Se P]
variable [Anch]
theorem opB_eq {x y : Operand} (h : opB x y = true) : x = y := by
  cases x with
  | tmp t => cases y with
    | tmp u => rw [Nat.eq_of_beq_eq_true (show Nat.beq t u = true from h)]
    | const _ => cases h
    | func _ => cases h
    | global _ => cases h
  | const v => cases y with
    | tmp u => cases v <;> cases h
    | const u => cases v with
      | int k n => cases u with
        | int k' n' =>
          have h : (match kEq k k' with
            | true => decide (n = n')
            | false => false) = true := h
          cases hk : kEq k k' with
          | true =>
            rw [hk] at h
            rw [kEq_eq hk, of_decide_eq_true (show decide (n = n') = true from h)]
          | false =>
            rw [hk] at h
            cases h
        | _ => cases h
      | _ => cases u <;> cases h
    | func _ => cases v <;> cases h
    | global _ => cases v <;> cases h
  | func _ => cases h
  | global _ => cases h
section
variable {w0 w w' : World} {Mu M : List Nat} {σ : AS} {L : Env} {S : List Res} {ρ : Nat → Value} {γ : Nat → List Value} {μ : Nat → List Nat} {ι : Nat → Nat}
variable {N : Nat} {ops : Array Oper} {ds : List Deferred} {B : Out} {X : Nat → Out} {Z : List PanicEntry → Out} {d : Nat} {ty : TypeId} {pos : String} {af : Array Edge} {G : Gx}
theorem zeroD_ok (hG : GxOk P G) {e : Nat} {u : Ty} {z0 : den u} (hu : lk G.ty e = some u) (hz : zeroD u = some z0) (hi : ∃ z, (P.info? e).bind (·.zero) = some z) : ∃ z : Value, (P.info? e).bind (·.zero) = some z ∧ z.cells = #[z] ∧ ∀ M w, (enc (P := P) u).R M w [z] z0 := by
  obtain ⟨z, hz'⟩ := hi
  have h1 := (TyOk.at hG.ty hu).2.2
  have hzv : z = zv u := by
    cases hin : P.info? e with
    | none => rw [hin] at hz'; cases hz'
    | some i =>
      rw [hin] at hz'
      have hz' : i.zero = some z := hz'
      have := h1 default
      simp [zeroValue, typeInfo, hin, hz'] at this
      exact this
  subst hzv
  refine ⟨zv u, hz', ?_⟩
  cases u with
  | int k =>
    have hz : some (0 : Int) = some z0 := hz
    cases hz
    exact ⟨rfl, fun _ _ => ⟨rfl, InK.zero k⟩⟩
  | bool =>
    have hz : some false = some z0 := hz
    cases hz
    exact ⟨rfl, fun _ _ => rfl⟩
  | sl t =>
    have hz : some ([] : List (den t)) = some z0 := hz
    cases hz
    exact ⟨rfl, fun _ _ => ⟨_, rfl, RdS.nil _ _ _⟩⟩
  | st _ => exact (noS hz).elim
  | arr _ _ => exact (noS hz).elim
  | mp _ _ _ => exact (noS hz).elim
theorem c_makeSlice (h : HS w0 Mu M σ L w S ρ γ μ ι) (hG : GxOk P G) (hN : Nat.blt d N = true) {t e b : Nat} {u : Ty} {x : Operand} {k : IntKind} {m : Int} {z0 : den u} {xs : List (den u)} (hl : lk G.sl t = some (e, u, b)) (hu : lk G.ty e = some u) (hz : zeroD u = some z0) (hx : evS σ.env x = some (.int k m)) (hm : mko b z0 m = some xs) :
    Goes P N ops ds L w ⟨some d, .makeSlice t x x, ty, pos, af, none⟩ w0 Mu M (apps (some d) [.new d (.own false (.sl e u) xs), .put (.own d)] σ) B X Z := by
  have hT := SlOk.at hG.sl hl
  obtain ⟨i, z', hi0, hz', _⟩ := hT.info
  obtain ⟨z, h1, h2, h3⟩ := zeroD_ok hG hu hz ⟨z', by rw [hi0]; exact hz'⟩
  refine y_mk hT h1 h2 h3 h.hp (h.int hx).1 (h.int hx).1 hm hN fun v' w' hp hA => ?_
  have h10 := h.new (i := d) (r := .own false (.sl e u) xs) (v := v') (cs := []) (mu := []) hp hA trivial
  have ho : Sx.Own (enc u) e 0 (mm (ownR [] (enc u) e v' xs :: S) M) w' v' xs := hp.ownAt 0 rfl
  refine Reg.nil ⟨rfl, EnvS.put _ _ _, ?_⟩
  exact ⟨_, _, _, _, _, h10.put (d := d) (s := .own d) (v := v') ⟨upf_self.symm, by rw [ho.cells1], ho.oneC⟩⟩
/-- A slice that is read, in a state behind what was given up. -/
theorem HS.rdF [Sl (P := P)] (h : HS w0 Mu M σ L w S ρ γ μ ι) {x : Operand} {s : SV} {u : Ty} {xs : List (den u)} {fz : List Ac} (hx : evS σ.env x = some s) (hd : toD (fnd σ.res) (.sl u) s = some xs) (hf : Rx.frz (fnd σ.res) (owns s) = some fz) :
    ∃ v S1 ι1, Sx.ev L x = some v ∧ HS w0 Mu M (apps (some d) fz σ) L w S1 ρ γ μ ι1 ∧ RdS (enc u) (mm S1 M) w v xs := by
  obtain ⟨v, h1, h2⟩ := h.ev hx
  obtain ⟨S1, ι1, h5, h6, h7⟩ := h.frz (d := d) hf
  exact ⟨v, S1, ι1, h1, h5, (toD_ok (M' := mm S1 M) h7 (.sl u) s h6.1 hd h2).rds⟩
theorem dat_sl {M : List Nat} {w : World} {R : Nat → Option AR} {u : Ty} {xs : List (den u)} {v : Value} (h : RdS (enc u) M w v xs) : Ok ρ R M w (.dat (.sl u) xs) v := ⟨rfl, [v], ⟨v, rfl, h⟩, .inr ⟨rfl, rfl⟩⟩
theorem c_cutL [Sl (P := P)] (h : HS w0 Mu M σ L w S ρ γ μ ι) (hG : GxOk P G) (hN : Nat.blt d N = true) {t e b : Nat} {u : Ty} {x y : Operand} {s : SV} {k : IntKind} {i : Int} {xs l : List (den u)} {fz : List Ac} (hl : lk G.sl t = some (e, u, b)) (hx : evS σ.env x = some s) (hd : toD (fnd σ.res) (.sl u) s = some xs) (hf : Rx.frz (fnd σ.res) (owns s) = some fz) (hy : evS σ.env y = some (.int k i)) (hc : cutLo xs i = some l) :
    Goes P N ops ds L w ⟨some d, .slice t x (some y) none none, ty, pos, af, none⟩ w0 Mu M (apps (some d) (fz ++ [.put (.dat (.sl u) l)]) σ) B X Z := by
  obtain ⟨v, S1, ι1, h1, h2, h3⟩ := h.rdF (d := d) hx hd hf
  have hT := SlOk.at hG.sl hl
  obtain ⟨hb, rfl⟩ := cutLo_out hc
  rw [apps_app]
  exact s_slL h1 (h.int hy).1 h3 hb hT.und (SlT.size hT) hN fun v' hv => h2.fin (dat_sl hv)
theorem c_cutH [Sl (P := P)] (h : HS w0 Mu M σ L w S ρ γ μ ι) (hG : GxOk P G) (hN : Nat.blt d N = true) {t e b : Nat} {u : Ty} {x y : Operand} {s : SV} {k : IntKind} {i : Int} {xs l : List (den u)} {fz : List Ac} (hl : lk G.sl t = some (e, u, b)) (hx : evS σ.env x = some s) (hd : toD (fnd σ.res) (.sl u) s = some xs) (hf : Rx.frz (fnd σ.res) (owns s) = some fz) (hy : evS σ.env y = some (.int k i)) (hc : cutHi xs i = some l) :
    Goes P N ops ds L w ⟨some d, .slice t x none (some y) none, ty, pos, af, none⟩ w0 Mu M (apps (some d) (fz ++ [.put (.dat (.sl u) l)]) σ) B X Z := by
  obtain ⟨v, S1, ι1, h1, h2, h3⟩ := h.rdF (d := d) hx hd hf
  have hT := SlOk.at hG.sl hl
  obtain ⟨hb, rfl⟩ := cutHi_out hc
  rw [apps_app]
  exact s_slH h1 (h.int hy).1 h3 hb hT.und (SlT.size hT) hN fun v' hv _ => h2.fin (dat_sl hv)
/-- x[:0:0]: a new slice, empty. -/
theorem c_cut0 [Sl (P := P)] (h : HS w0 Mu M σ L w S ρ γ μ ι) (hG : GxOk P G) (hN : Nat.blt d N = true) {t e b : Nat} {u : Ty} {x : Operand} {k k' : IntKind} {xs : List (den u)} {s : SV} (hl : lk G.sl t = some (e, u, b)) (hx : evS σ.env x = some s) (hd : toD (fnd σ.res) (.sl u) s = some xs) (ho : owns s = []) :
    Goes P N ops ds L w ⟨some d, .slice t x none (some (.const (.int k 0))) (some (.const (.int k' 0))), ty, pos, af, none⟩ w0 Mu M (apps (some d) [.new d (.own false (.sl e u) []), .put (.own d)] σ) B X Z := by
  obtain ⟨v, h1, h2⟩ := h.ev hx
  have h3 := (toD_ok (M' := mm S M) (fun _ hb => hb) (.sl u) s (fun j hj => by rw [ho] at hj; cases hj) hd h2).rds
  obtain ⟨a, c, rfl, _⟩ := h3.shape
  have hT := SlOk.at hG.sl hl
  refine s_sl00 h1 hT.und (SlT.size hT) hN fun v' hk => ?_
  have hp := h.hp.addLit (enc (P := P) u) e hk
  have h10 := h.new (i := d) (r := .own false (.sl e u) []) (v := v') (cs := []) (mu := []) hp (Hp.addLitA _ _ hk) trivial
  have ho : Sx.Own (enc u) e 0 (mm (ownR [] (enc u) e v' [] :: S) M) w v' [] := hp.ownAt 0 rfl
  refine Reg.nil ⟨rfl, EnvS.put _ _ _, ?_⟩
  exact ⟨_, _, _, _, _, h10.put (d := d) (s := .own d) (v := v') ⟨upf_self.symm, by rw [ho.cells1], ho.oneC⟩⟩
theorem c_eqS [Sl (P := P)] (h : HS w0 Mu M σ L w S ρ γ μ ι) (hG : GxOk P G) (hN : Nat.blt d N = true) {b : BinOp} {t t' n : Nat} {x y : Operand} {s s' : SV} {p q : Sg.S n} (hl : lk G.eq t = some n) (hb : b = .eql ∨ b = .neq) (hx : evS σ.env x = some s) (hy : evS σ.env y = some s') (ho : owns s = []) (ho' : owns s' = []) (hp : toD (fnd σ.res) (.st n) s = some p) (hq : toD (fnd σ.res) (.st n) s' = some q) :
    Goes P N ops ds L w ⟨some d, .binOp b t x y t', ty, pos, af, none⟩ w0 Mu M (apps (some d) [.put (.bool (match b with | .eql => Sf.eq n p q | _ => !Sf.eq n p q))] σ) B X Z := by
  obtain ⟨v, h1, h2⟩ := h.ev hx
  obtain ⟨v', h3, h4⟩ := h.ev hy
  have h5 := toD_ok (M' := mm S M) (fun _ hb => hb) (.st n) s (fun j hj => by rw [ho] at hj; cases hj) hp h2
  have h6 := toD_ok (M' := mm S M) (fun _ hb => hb) (.st n) s' (fun j hj => by rw [ho'] at hj; cases hj) hq h4
  obtain ⟨cs, h7, ⟨_, rfl⟩ | ⟨h8, _⟩⟩ := h5
  · obtain ⟨cs', h9, ⟨_, rfl⟩ | ⟨h8, _⟩⟩ := h6
    · obtain ⟨hg, he⟩ := EqOk.at hG.eq hl
      have he := he (mm S M) w cs cs' p q h7 h9
      rcases hb with rfl | rfl
      · exact s_eqS he hg h1 h3 hN (h.fin rfl)
      · exact s_neS he hg h1 h3 hN (h.fin rfl)
    · cases h8
  · cases h8
end
end Go.Rx
namespace Go.Rx
open Go Go.Sx Go.RowKit
variable [Trk] [Sg] [Sf] {P : Program} [Se P]
variable [Anch]
theorem zdM_ok [Sl (P := P)] {M : List Nat} {w : World} {t : Ty} {x : den t} (h : zdM t = some x) : OkD (P := P) M w t x (zv t) := by
  unfold zdM at h
  cases hs : zdS t with
  | none => rw [hs] at h; exact (noS h).elim
  | some s =>
    rw [hs] at h
    have key : Ok (P := P) (fun _ => undef) (fun _ => none) M w s (zv t) := by
      cases t with
      | st n =>
        have hs : (match zeroL (Sf.ft n) with
          | some l => some (.agg l)
          | none => none) = some s := hs
        cases hl : zeroL (Sf.ft n) with
        | none => rw [hl] at hs; exact (noS hs).elim
        | some l =>
          rw [hl] at hs
          have hs : SV.agg l = s := Option.some.inj hs
          subst hs
          exact ⟨_, rfl, zeroL_ok _ hl⟩
      | mp _ _ _ => exact (noS hs).elim
      | int _ | bool | sl _ | arr _ _ => exact zeroC_ok _ hs
    exact toD_ok (M' := M) (fun _ hb => hb) t s (fun i _ p c x h => by cases h) h key
section
variable {w0 w w' : World} {Mu M : List Nat} {σ : AS} {L : Env} {S : List Res} {ρ : Nat → Value} {γ : Nat → List Value} {μ : Nat → List Nat} {ι : Nat → Nat}
variable {N : Nat} {ops : Array Oper} {ds : List Deferred} {B : Out} {X : Nat → Out} {Z : List PanicEntry → Out} {d : Nat} {ty : TypeId} {pos : String} {af : Array Edge} {G : Gx}
theorem mapRes_at {mu : List Nat} {m b : Nat} {k v : Ty} {f : FMap (den k) (den v)} {K : Ky P m (den k)} (hK : Se.ky (P := P) m k = some K) : mapRes (P := P) mu m k v b f = { mapO K (enc v) v.agg b f with mu := mu } := by
  unfold mapRes; rw [hK]
theorem mapRes_holds {mu : List Nat} {m b : Nat} {k v : Ty} {f : FMap (den k) (den v)} {K : Ky P m (den k)} (hK : Se.ky (P := P) m k = some K) (h : (mapRes (P := P) mu m k v b f).holds M w) : MapH K (enc (P := P) v) v.agg M w b f := by
  rw [mapRes_at hK] at h; exact h
/-- A map that is known, in memory. -/
theorem HS.mapAt (h : HS w0 Mu M σ L w S ρ γ μ ι) {m : Nat} {k v : Ty} {s : SV} {u : Value} {f : FMap (den k) (den v)} {K : Ky P m (den k)} (hK : Se.ky (P := P) m k = some K) (hd : toD (fnd σ.res) (.mp m k v) s = some f) (hu : Ok ρ (fnd σ.res) (mm S M) w s u) :
    ∃ b, u = .map (some b) ∧ MapH K (enc (P := P) v) v.agg (mm S M) w b f := by
  cases s with
  | own i =>
    have hd : (match fnd σ.res i with
      | some (.own _ c x) => castD c.ty (.mp m k v) x
      | _ => none) = some f := hd
    cases hi : fnd σ.res i with
    | none => rw [hi] at hd; exact (noS hd).elim
    | some a =>
      rw [hi] at hd
      cases a with
      | row _ _ => exact (noS hd).elim
      | own p c x =>
        obtain ⟨he, hd⟩ := castD_some (show castD c.ty (.mp m k v) x = some f from hd)
        cases c with
        | sl _ _ => cases he
        | mp m' k' v' =>
          cases he
          have hd : x = f := hd
          subst hd
          obtain ⟨b, hb⟩ := h.row i _ hi
          have h1 := h.hp.get _ (h.res i _ hi)
          have h2 : (mapRes (P := P) (bif p then μ i else []) m k v (blk (ρ i)) x).holds (mm S M) w := h1
          have h3 := mapRes_holds hK h2
          have hb2 : blk (ρ i) = b := by rw [hb]; rfl
          rw [hb2] at h3
          exact ⟨b, hu.1.trans hb, h3⟩
  | dat t' x =>
    obtain ⟨he, hd⟩ := castD_some (show castD t' (.mp m k v) x = some f from hd)
    cases he
    have hd : x = f := hd
    subst hd
    obtain ⟨_, cs, ⟨u', K', rfl, hK', b, rfl, _, hH⟩, ⟨h2, _⟩ | ⟨_, h2⟩⟩ := hu
    · cases h2
    · have : u = .map (some b) := (List.singleton_inj.1 h2).symm
      rw [hK] at hK'; cases hK'
      exact ⟨b, this, hH⟩
  | int _ _ | bool _ | ary _ _ _ | str _ _ | agg _ | fv _ _ _ | fn _ _ | raw _ | it _ _ | np _ _ | ap _ _ _ _ | undef | dead | tup _ | rp _ _ | ptr _ _ | ep _ _ _ _ _ | nilS => exact (noS hd).elim
theorem HS.key [Sl (P := P)] (h : HS w0 Mu M σ L w S ρ γ μ ι) {k : Ty} {y : Operand} {sy : SV} {a : den k} (hy : evS σ.env y = some sy) (ho : owns sy = []) (ha : toD (fnd σ.res) k sy = some a) : ∃ u, Sx.ev L y = some u ∧ OkD (P := P) (mm S M) w k a u := by
  obtain ⟨u, h1, h2⟩ := h.ev hy
  exact ⟨u, h1, toD_ok (M' := mm S M) (fun _ hb => hb) k sy (fun i hi => by rw [ho] at hi; cases hi) ha h2⟩
theorem c_makeMap (h : HS w0 Mu M σ L w S ρ γ μ ι) (hG : GxOk P G) (hN : Nat.blt d N = true) {t m e : Nat} {k v : Ty} (hl : lk G.mp t = some (m, e, k, v)) :
    Goes P N ops ds L w ⟨some d, .makeMap t none, ty, pos, af, none⟩ w0 Mu M (apps (some d) [.new d (.own false (.mp m k v) (show FMap (den k) (den v) from fnone)), .put (.own d)] σ) B X Z := by
  obtain ⟨K, hK, _, _, _⟩ := MpOk.at hG.mp hl
  refine y_mkF K (enc (P := P) v) v.agg h.hp hN fun b w' hp hA => ?_
  have he : ocR (P := P) [] (.map (some b)) (.mp m k v) (show FMap (den k) (den v) from fnone) = mapO K (enc v) v.agg b fnone := mapRes_at hK
  rw [← he] at hp hA
  have h9 := h.new (i := d) (r := .own false (.mp m k v) (show FMap (den k) (den v) from fnone)) (v := .map (some b)) (cs := []) (mu := []) hp hA ⟨b, rfl⟩
  refine Reg.nil ⟨rfl, EnvS.put _ _ _, ?_⟩
  exact ⟨_, _, _, _, _, h9.put (d := d) (s := .own d) (v := .map (some b)) ⟨upf_self.symm, rfl, rfl⟩⟩
theorem lkR_ok {M : List Nat} {R : Nat → Option AR} {cm : Bool} {v : Ty} {o : Option (den v)} {z0 : den v} {r : Value} (hr : OkD (P := P) M w v (o.getD z0) r) : Ok ρ R M w (lkR cm v o z0) (if cm then .tuple #[r, .bool o.isSome] else r) := by
  cases cm with
  | true => exact ⟨[r, .bool o.isSome], rfl, r, _, rfl, ofD_ok v hr, _, _, rfl, rfl, rfl⟩
  | false => exact ofD_ok v hr
theorem c_lookup [Sl (P := P)] (h : HS w0 Mu M σ L w S ρ γ μ ι) (hG : GxOk P G) (hN : Nat.blt d N = true) {t m e : Nat} {k v : Ty} {cm : Bool} {x y : Operand} {sx sy : SV} {f : FMap (den k) (den v)} {a : den k} {z0 : den v} (hl : lk G.mp t = some (m, e, k, v)) (hx : evS σ.env x = some sx) (hd : toD (fnd σ.res) (.mp m k v) sx = some f) (hy : evS σ.env y = some sy) (ho : owns sy = []) (ha : toD (fnd σ.res) k sy = some a) (hz : zdM v = some z0) :
    Goes P N ops ds L w ⟨some d, .lookup t x y cm, ty, pos, af, none⟩ w0 Mu M (apps (some d) [.put (lkR cm v (f a) z0)] σ) B X Z := by
  obtain ⟨K, hK, hKv, hu, hzv⟩ := MpOk.at hG.mp hl
  obtain ⟨vx, h1, h2⟩ := h.ev hx
  obtain ⟨vy, h3, h4⟩ := h.key hy ho ha
  obtain ⟨hv, hok⟩ := hKv _ _ _ _ h4
  subst hv
  obtain ⟨b, rfl, hH⟩ := h.mapAt hK hd h2
  obtain ⟨r, h5, h6⟩ := hH.lookup hok hu hzv (zdM_ok hz)
  refine Reg.eff _ w rfl rfl hN (fun A hA => ?_) (h.fin (lkR_ok (cm := cm) h6))
  simp [execOp, hA.eval h1, hA.eval h3, h5 cm w rfl]
theorem ownM_some {R : Nat → Option AR} {m : Nat} {k v : Ty} {s : SV} {i : Nat} {f : FMap (den k) (den v)} (h : ownM R m k v s = some (i, f)) : s = .own i ∧ R i = some (.own false (.mp m k v) f) := by
  cases s with
  | own j =>
    have h : (match R j with
      | some (.own false c f) => match castO c (.mp m k v) f with
        | some f => some (j, f)
        | none => none
      | _ => none) = some (i, f) := h
    cases hj : R j with
    | none => rw [hj] at h; exact (noS h).elim
    | some a =>
      rw [hj] at h
      cases a with
      | row _ _ => exact (noS h).elim
      | own p c g =>
        cases p with
        | true => exact (noS h).elim
        | false =>
          simp only at h
          cases hc : castO c (.mp m k v) g with
          | none => rw [hc] at h; exact (noS h).elim
          | some g' =>
            rw [hc] at h
            have h : (j, g') = (i, f) := Option.some.inj h
            cases h
            obtain ⟨he, hc⟩ := castO_some hc
            subst he
            have hc : g = f := hc
            subst hc
            exact ⟨rfl, hj⟩
  | int _ _ | bool _ | dat _ _ | ary _ _ _ | str _ _ | agg _ | fv _ _ _ | fn _ _ | raw _ | it _ _ | np _ _ | ap _ _ _ _ | undef | dead | tup _ | rp _ _ | ptr _ _ | ep _ _ _ _ _ | nilS => exact (noS h).elim
theorem HS.mapO (h : HS w0 Mu M σ L w S ρ γ μ ι) {i m : Nat} {k v : Ty} {f : FMap (den k) (den v)} {K : Ky P m (den k)} (hK : Se.ky (P := P) m k = some K) (hi : fnd σ.res i = some (.own false (.mp m k v) f)) : ∃ b, ρ i = .map (some b) ∧ S[ι i]? = some (Sx.mapO K (enc (P := P) v) v.agg b f) := by
  obtain ⟨b, hb⟩ := h.row i _ hi
  have h1 := h.res i _ hi
  have h2 : S[ι i]? = some (mapRes (P := P) [] m k v (blk (ρ i)) f) := h1
  rw [mapRes_at hK, hb] at h2
  exact ⟨b, hb, h2⟩
/-- A map that is one's own, changed. -/
theorem HS.mapUp (h : HS w0 Mu M σ L w S ρ γ μ ι) {i m b : Nat} {k v : Ty} {f f' : FMap (den k) (den v)} {K : Ky P m (den k)} (hK : Se.ky (P := P) m k = some K) (hi : fnd σ.res i = some (.own false (.mp m k v) f)) (hb : ρ i = .map (some b)) (hp : Hp w0 Mu M (S.set (ι i) (Sx.mapO K (enc (P := P) v) v.agg b f')) w') (hA : Adv (mm S M) (mm (S.set (ι i) (Sx.mapO K (enc (P := P) v) v.agg b f')) M) w w') (dd : Option Nat) : Holds w0 Mu M (apps dd [.cnt i (.mp m k v) f'] σ) L w' := by
  have he : resOf (P := P) (ρ i) (γ i) (μ i) (.own false (.mp m k v) f') = Sx.mapO K (enc (P := P) v) v.agg b f' := by
    rw [hb]; exact mapRes_at hK
  rw [← he] at hp hA
  have hgg : cntR (.mp m k v) f' (.own false (.mp m k v) f) = .own false (.mp m k v) f' := by simp only [cntR, castO, dif_pos]
  exact ⟨_, _, _, _, _, h.upd (r := .own false (.mp m k v) f') (cs := γ i) (g := cntR (.mp m k v) f') (c := [0]) hi hgg hp hA (fun p' e' t' ys he => by cases he) ⟨b, hb⟩⟩
theorem c_mapUpdate [Sl (P := P)] (h : HS w0 Mu M σ L w S ρ γ μ ι) (hG : GxOk P G) {t m e i : Nat} {k v : Ty} {x y u : Operand} {sy su : SV} {f : FMap (den k) (den v)} {a : den k} {z : den v} {fz : List Ac} (hl : lk G.mp t = some (m, e, k, v)) (hx : evS σ.env x = some (.own i)) (hi : fnd σ.res i = some (.own false (.mp m k v) f)) (hy : evS σ.env y = some sy) (ho : owns sy = []) (ha : toD (fnd σ.res) k sy = some a) (hu : evS σ.env u = some su) (hni : has (owns su) i = false) (hz : toD (fnd σ.res) v su = some z) (hf : Rx.frz (fnd σ.res) (owns su) = some fz) :
    Goes P N ops ds L w ⟨none, .mapUpdate t x y u, ty, pos, af, none⟩ w0 Mu M (apps none (fz ++ [.cnt i (.mp m k v) (@fput _ _ (denDec k) f a z)]) σ) B X Z := by
  obtain ⟨K, hK, hKv, hut, hzv⟩ := MpOk.at hG.mp hl
  obtain ⟨vx, h1, h2, _⟩ := h.ev hx
  subst h2
  obtain ⟨vy, h3, h4⟩ := h.key hy ho ha
  obtain ⟨hv, hok⟩ := hKv _ _ _ _ h4
  subst hv
  obtain ⟨vu, h5, h6⟩ := h.ev hu
  obtain ⟨S1, ι1, k1, k2, k3⟩ := h.frzO (d := none) hf
  have k4 : fnd (apps none fz σ).res i = some (.own false (.mp m k v) f) := del_ownC fz σ (fun a ha => by
    obtain ⟨j, hj, q, rfl⟩ := frz_ids _ hf a ha
    exact ⟨j, q, rfl, fun e => by subst e; rw [has_iff.2 hj] at hni; cases hni⟩) hi
  obtain ⟨b, hb, hS⟩ := k1.mapO hK k4
  rw [hb] at h1
  have h7 := toD_ok (M' := mm S1 M) k3 v su k2.1 hz h6
  letI : DecidableEq (den k) := denDec k
  refine y_upF (ι1 i) k1.hp hS h1 h3 hok h5 h7 hut fun w' hp hA => ?_
  refine Reg.nil ⟨rfl, EnvS.refl _ _, ?_⟩
  rw [apps_app]
  exact k1.mapUp hK k4 hb hp hA none
theorem c_delete [Sl (P := P)] (h : HS w0 Mu M σ L w S ρ γ μ ι) (hG : GxOk P G) {t t' m e i : Nat} {k v : Ty} {x y : Operand} {sy : SV} {f : FMap (den k) (den v)} {a : den k} (hl : lk G.mp t = some (m, e, k, v)) (hx : evS σ.env x = some (.own i)) (hi : fnd σ.res i = some (.own false (.mp m k v) f)) (hy : evS σ.env y = some sy) (ho : owns sy = []) (ha : toD (fnd σ.res) k sy = some a) :
    Goes P N ops ds L w ⟨none, .call ⟨.builtin .delete, #[x, y], #[t, t']⟩, ty, pos, af, none⟩ w0 Mu M (apps none [.cnt i (.mp m k v) (@fdel _ _ (denDec k) f a)] σ) B X Z := by
  obtain ⟨K, hK, hKv, hut, hzv⟩ := MpOk.at hG.mp hl
  obtain ⟨vx, h1, h2, _⟩ := h.ev hx
  subst h2
  obtain ⟨vy, h3, h4⟩ := h.key hy ho ha
  obtain ⟨hv, hok⟩ := hKv _ _ _ _ h4
  subst hv
  obtain ⟨b, hb, hS⟩ := h.mapO hK hi
  rw [hb] at h1
  letI : DecidableEq (den k) := denDec k
  refine y_dlF (ι i) h.hp hS h1 h3 hok hut fun w' hp hA => ?_
  exact Reg.nil ⟨rfl, EnvS.refl _ _, h.mapUp hK hi hb hp hA none⟩
theorem c_lenM [Sl (P := P)] (h : HS w0 Mu M σ L w S ρ γ μ ι) (hG : GxOk P G) (hN : Nat.blt d N = true) {t m e : Nat} {k v : Ty} {x : Operand} {sx : SV} {f : FMap (den k) (den v)} (hl : lk G.mp t = some (m, e, k, v)) {n : Int} (hx : evS σ.env x = some sx) (hd : toD (fnd σ.res) (.mp m k v) sx = some f) (hn : chk .i64 (flen f) = some n) :
    Goes P N ops ds L w ⟨some d, .call ⟨.builtin .len, #[x], #[t]⟩, ty, pos, af, none⟩ w0 Mu M (apps (some d) [.put (.int .i64 n)] σ) B X Z := by
  obtain ⟨K, hK, hKv, hut, hzv⟩ := MpOk.at hG.mp hl
  obtain ⟨vx, h1, h2⟩ := h.ev hx
  obtain ⟨b, rfl, hH⟩ := h.mapAt hK hd h2
  obtain ⟨es, c, xs, g1, g2, g3, g4⟩ := hH
  have hl : (es.size : Int) = flen f := by rw [flen_of g4, ← g3.len]; simp
  obtain ⟨he, hok⟩ := chk_out hn
  subst he
  refine Reg.eff _ w rfl rfl hN (fun a ha => ?_) (h.fin ⟨rfl, hok⟩)
  simp [execOp, resolve, invoke, builtin, Builtin.len_, ha.eval h1, run_underlying hut, MapKept.run_getObj_map g1, goInt, hl]
end
end Go.Rx
namespace Go.Rx
open Go Go.Sx Go.RowKit
variable [Trk] [Sg] [Sf] {P : Program} [Se P]
variable [Anch]
section
variable {w0 w w' : World} {Mu M : List Nat} {σ : AS} {L : Env} {S : List Res} {ρ : Nat → Value} {γ : Nat → List Value} {μ : Nat → List Nat} {ι : Nat → Nat}
variable {N : Nat} {ops : Array Oper} {ds : List Deferred} {A B : Out} {X : Nat → Out} {Z : List PanicEntry → Out} {d : Nat} {ty : TypeId} {pos : String} {af : Array Edge} {G : Gx} {q : Md} {rest : List Oper}
theorem s_iaA {t e len m b o : Nat} {x y : Operand} {k : IntKind} {i : Int} (hx : Sx.ev L x = some (.pointer (some ⟨b, o, none⟩))) (hy : Sx.ev L y = some (.int k i)) (h0 : 0 ≤ i) (h1 : i < len) (ht : P.underlying t = some (.array len e)) (hs : ∀ w, (sizeOf e).run P w = .ok m w) (hN : Nat.blt d N = true)
    (h : Reg P N ops q rest ds ((d, .pointer (some ⟨b, o + i.toNat * m, none⟩)) :: L) w A B X Z) : Reg P N ops q (⟨some d, .indexAddr t x y, ty, pos, af, none⟩ :: rest) ds L w A B X Z := by
  refine Reg.val (.pointer (some ⟨b, o + i.toNat * m, none⟩)) rfl rfl hN (fun a ha w' _ => ?_) h
  have h1' : i.toNat < len := by omega
  simp [execOp, ha.eval hx, ha.eval hy, Instr.indexAt, asIntOf, run_underlying ht, Instr.sureAddr, h0, h1, hs, add_none]
theorem ixA_out {n i j : Int} (h : ixA n i = some j) : 0 ≤ i ∧ i < n ∧ j = i := by
  unfold ixA at h
  split at h
  · rename_i hi; cases h; exact ⟨hi.1, hi.2, rfl⟩
  · cases h
theorem mul_nat {i : Int} {m : Nat} (h : 0 ≤ i) : (i * Int.ofNat m).toNat = i.toNat * m ∧ 0 ≤ i * Int.ofNat m := by
  obtain ⟨j, rfl⟩ := Int.eq_ofNat_of_zero_le h
  have : (j : Int) * Int.ofNat m = ((j * m : Nat) : Int) := by simp
  rw [this]
  exact ⟨by rw [Int.toNat_natCast]; simp, Int.natCast_nonneg _⟩
theorem mul_le {i : Int} {m len : Nat} (h : 0 ≤ i) (h1 : i < len) : i * Int.ofNat m + m ≤ ((len * m : Nat) : Int) := by
  obtain ⟨j, rfl⟩ := Int.eq_ofNat_of_zero_le h
  have hj : j + 1 ≤ len := by omega
  have : (j : Int) * Int.ofNat m + m = (((j + 1) * m : Nat) : Int) := by simp [Nat.add_mul]
  rw [this]
  exact_mod_cast Nat.mul_le_mul_right m hj
theorem c_iaA (h : HS w0 Mu M σ L w S ρ γ μ ι) (hG : GxOk P G) (hN : Nat.blt d N = true) {t len m : Nat} {x y : Operand} {k : IntKind} {i j : Int} {s r : SV} (hl : lk G.ar t = some (len, m)) (hx : evS σ.env x = some s) (hy : evS σ.env y = some (.int k i)) (hi : ixA len i = some j) (hr : apS len m j s = some r) :
    Goes P N ops ds L w ⟨some d, .indexAddr t x y, ty, pos, af, none⟩ w0 Mu M (apps (some d) [.put r] σ) B X Z := by
  obtain ⟨h0, h1, rfl⟩ := ixA_out hi
  obtain ⟨e, ht, hs⟩ := ArOk.at hG.ar hl
  obtain ⟨vx, hx1, hx2⟩ := h.ev hx
  obtain ⟨vy, hy1, hy2, _⟩ := h.ev hy
  subst hy2
  have hm := mul_nat (m := m) h0
  cases s with
  | rp v o =>
    have hr : some (SV.ap (.rp v o) (len * m) (j * Int.ofNat m) m) = some r := hr
    cases hr
    have hx3 := hx2
    obtain ⟨b, o0, u, vs, rfl, _⟩ := hx2
    exact s_iaA hx1 hy1 h0 h1 ht hs hN (h.fin ⟨b, o0 + o, hx3, by rw [hm.1], hm.2, mul_le h0 h1⟩)
  | ptr i' o =>
    have hr : some (SV.ap (.ptr i' o) (len * m) (j * Int.ofNat m) m) = some r := hr
    cases hr
    have hx3 := hx2
    obtain ⟨b, hb, rfl⟩ := hx2
    exact s_iaA hx1 hy1 h0 h1 ht hs hN (h.fin ⟨b, o, hx3, by rw [hm.1], hm.2, mul_le h0 h1⟩)
  | ap s0 n x0 k0 =>
    have hr : (match Nat.beq k0 (len * m) with
      | true => some (SV.ap s0 n (x0 + j * Int.ofNat m) m)
      | false => none) = some r := hr
    cases hk : Nat.beq k0 (len * m) with
    | false => rw [hk] at hr; exact (noS hr).elim
    | true =>
      rw [hk] at hr
      have hk := Nat.eq_of_beq_eq_true hk
      cases hr
      obtain ⟨b, o, hb, rfl, h2, h3⟩ := hx2
      have h4 := mul_le (m := m) h0 h1
      refine s_iaA hx1 hy1 h0 h1 ht hs hN (h.fin ⟨b, o, hb, ?_, by omega, by omega⟩)
      rw [Int.toNat_add h2 hm.2, hm.1, Nat.add_assoc]
  | int _ _ | bool _ | ary _ _ _ | str _ _ | agg _ | fv _ _ _ | fn _ _ | undef | dead | tup _ | dat _ _ | own _ | nilS | raw _ | it _ _ | np _ _ | ep _ _ _ _ _ => exact (noS hr).elim
section
variable {R : Nat → Option AR}
theorem arr_ok {k : IntKind} {n : Nat} {xs : List Int} {u : Value} (h : Ok ρ R M w (.ary k n xs) u) : 0 < n ∧ xs.length = n ∧ u.cells = List.toArray (xs.map (Value.int k)) ∧ ∀ y ∈ xs, InK k y := by
  obtain ⟨cs, ⟨h0, h1, h2, h3⟩, h4 | h4⟩ := h
  · obtain ⟨_, rfl⟩ := h4; exact ⟨h0, h1, by rw [h2]; rfl, h3⟩
  · cases h4.1
theorem arr_in {k : IntKind} {n o : Nat} {xs : List Int} {l : List SV} {vs : List Value} (hc : cellAt l o = some (.ary k n xs)) (h : OkL ρ R M w l vs) : 0 < n ∧ xs.length = n ∧ (∃ r, vs.drop o = xs.map (Value.int k) ++ r) ∧ ∀ y ∈ xs, InK k y := by
  obtain ⟨u, c, r, h1, h2, h3⟩ := cellAt_ok l o hc h
  obtain ⟨h4, h5, h6, h7⟩ := arr_ok h1
  rw [h6] at h2
  have h2 : xs.map (Value.int k) = c := by simpa using h2
  exact ⟨h4, h5, ⟨r, by rw [h3, h2]⟩, h7⟩
end
theorem drop_get {α : Type} {l a r : List α} {o : Nat} (h : l.drop o = a ++ r) {j : Nat} {y : α} (hy : a[j]? = some y) : l[o + j]? = some y := by
  have h1 : (l.drop o)[j]? = some y := by
    rw [h, List.getElem?_append_left]
    · exact hy
    · rcases Nat.lt_or_ge j a.length with h | h
      · exact h
      · rw [List.getElem?_eq_none h] at hy; cases hy
  rwa [List.getElem?_drop] at h1
theorem arrAt_ok [Sl (P := P)] (h : HS w0 Mu M σ L w S ρ γ μ ι) {s : SV} {k : IntKind} {n b o : Nat} {xs : List Int} (ha : arrAt (fnd σ.res) s = some (k, n, xs)) (hs : Ok ρ (fnd σ.res) (mm S M) w s (.pointer (some ⟨b, o, none⟩))) :
    xs.length = n ∧ (∀ y ∈ xs, InK k y) ∧ ∀ (j : Nat) (y : Int), xs[j]? = some y → w.cell? ⟨b, o + j, none⟩ = some (.int k y) := by
  have fin : ∀ {l : List SV} {vs : List Value} {o0 o1 : Nat}, (match cellAt l o1 with
      | some (.ary k n xs) => some (k, n, xs)
      | _ => none) = some (k, n, xs) → OkL ρ (fnd σ.res) (mm S M) w l vs → Cells w b o0 vs → o = o0 + o1 → xs.length = n ∧ (∀ y ∈ xs, InK k y) ∧ ∀ (j : Nat) (y : Int), xs[j]? = some y → w.cell? ⟨b, o + j, none⟩ = some (.int k y) := by
    intro l vs o0 o1 hq hl hC ho
    split at hq
    · rename_i k' n' xs' hc
      cases hq
      obtain ⟨_, h2, ⟨r, h3⟩, h4⟩ := arr_in hc hl
      refine ⟨h2, h4, fun j y hj => ?_⟩
      have h5 := drop_get h3 (j := j) (y := Value.int k y) (by rw [List.getElem?_map, hj]; rfl)
      have := hC (o1 + j) _ h5
      rwa [ho, Nat.add_assoc]
    · cases hq
  cases s with
  | rp v o1 =>
    obtain ⟨b', o0, u, vs, he, h2, h3, h4⟩ := hs
    cases he
    have h5 := Ok.cellsOf v h3
    rw [h4] at h5
    exact fin ha h5 h2.cells rfl
  | ptr i o1 =>
    have ha : (match fnd σ.res i with
      | some (.row _ l) => (match cellAt l o1 with
        | some (.ary k n xs) => some (k, n, xs)
        | _ => none)
      | _ => none) = some (k, n, xs) := ha
    cases hi : fnd σ.res i with
    | none => rw [hi] at ha; exact (noS ha).elim
    | some a =>
      rw [hi] at ha
      cases a with
      | own _ _ _ => exact (noS ha).elim
      | row e l =>
        obtain ⟨b', hb, he⟩ := hs
        cases he
        obtain ⟨b2, h3, h4, h5, _⟩ := h.rowAt hi
        rw [hb] at h3; cases h3
        exact fin ha h5 h4.rd.cells (Nat.zero_add _).symm
  | int _ _ | bool _ | ary _ _ _ | str _ _ | agg _ | fv _ _ _ | fn _ _ | undef | dead | tup _ | dat _ _ | own _ | nilS | raw _ | it _ _ | np _ _ | ep _ _ _ _ _ | ap _ _ _ _ => exact (noS ha).elim
theorem c_loadA [Sl (P := P)] (h : HS w0 Mu M σ L w S ρ γ μ ι) (hG : GxOk P G) (hN : Nat.blt d N = true) {t n : Nat} {x : Operand} {s : SV} {x0 y : Int} {q : IntKind} {xs : List Int} (ha : lk G.tb.ag t = some 0) (hx : evS σ.env x = some (.ap s n x0 1)) (hs : arrAt (fnd σ.res) s = some (q, n, xs)) (hy : ixo xs x0 = some y) :
    Goes P N ops ds L w ⟨some d, .load t x, ty, pos, af, none⟩ w0 Mu M (apps (some d) [.put (.int q y)] σ) B X Z := by
  obtain ⟨v, h1, b, o, h2, rfl, h3, h4⟩ := h.ev hx
  obtain ⟨h5, h6, h7⟩ := arrAt_ok h hs h2
  have hz := (ixo_out hy).2.2
  exact s_ld h1 (h7 _ _ hz) (AgOk.at0 hG.ag ha) hN (h.fin ⟨rfl, h6 y (List.mem_of_getElem? hz)⟩)
theorem setAt_self : ∀ (l r : List Value), setAt (l ++ r) 0 l = l ++ r
  | [], r => by cases r <;> rfl
  | x :: l, r => by
    show x :: setAt (l ++ r) 0 l = x :: (l ++ r)
    rw [setAt_self l r]
theorem setAt_arr0 {k : IntKind} {v : Int} {r : List Value} : ∀ (xs : List Int) (j : Nat), j < xs.length → setAt (xs.map (Value.int k) ++ r) j [Value.int k v] = setAt (xs.map (Value.int k) ++ r) 0 ((xs.set j v).map (Value.int k))
  | [], j, h => by simp at h
  | x :: xs, 0, _ => by
    show Value.int k v :: setAt (xs.map (Value.int k) ++ r) 0 [] = Value.int k v :: setAt (xs.map (Value.int k) ++ r) 0 (xs.map (Value.int k))
    rw [setAt_self]
    cases (xs.map (Value.int k) ++ r) <;> rfl
  | x :: xs, j + 1, h => by
    show Value.int k x :: setAt (xs.map (Value.int k) ++ r) j [Value.int k v] = Value.int k x :: setAt (xs.map (Value.int k) ++ r) 0 ((xs.set j v).map (Value.int k))
    rw [setAt_arr0 xs j (by simpa using h)]
theorem setAt_arr {k : IntKind} {xs : List Int} {j : Nat} {v : Int} {r : List Value} (hj : j < xs.length) : ∀ (o : Nat) {γ : List Value}, γ.drop o = xs.map (Value.int k) ++ r → setAt γ (o + j) [Value.int k v] = setAt γ o ((xs.set j v).map (Value.int k))
  | 0, γ, h => by
    rw [List.drop_zero] at h
    rw [h, Nat.zero_add]
    exact setAt_arr0 xs j hj
  | o + 1, [], h => by
    cases xs with
    | nil => simp at hj
    | cons x xs => simp at h
  | o + 1, c :: γ, h => by
    have h : γ.drop o = xs.map (Value.int k) ++ r := h
    rw [show o + 1 + j = (o + j) + 1 by omega]
    have e1 : setAt (c :: γ) (o + j + 1) [Value.int k v] = c :: setAt γ (o + j) [Value.int k v] := rfl
    have e2 : ∀ l : List Value, l ≠ [] → setAt (c :: γ) (o + 1) l = c :: setAt γ o l := fun l hl => by
      cases l with
      | nil => exact absurd rfl hl
      | cons _ _ => rfl
    rw [e1, e2 _ (fun e => by
      have : ((xs.set j v).map (Value.int k)).length = 0 := by rw [e]; rfl
      simp at this; rw [this] at hj; simp at hj), setAt_arr hj o h]
theorem c_storeA [Sl (P := P)] (h : HS w0 Mu M σ L w S ρ γ μ ι) (hG : GxOk P G) {t i o e n : Nat} {x y : Operand} {k : IntKind} {v x0 : Int} {l l' : List SV} {xs m : List Int} {s : SV} (hy : evS σ.env y = some s) (hs : storC s = some [.int k v]) (hx : evS σ.env x = some (.ap (.ptr i o) n x0 1)) (hi : fnd σ.res i = some (.row e l)) (hc : cellAt l o = some (.ary k n xs)) (hm : seto xs x0 v = some m) (hw : setW l o [.ary k n m] = some l') (hz : lk G.sz t = some 1) :
    Goes P N ops ds L w ⟨none, .store t x y, ty, pos, af, none⟩ w0 Mu M (apps none [.sto i o [.ary k n m]] σ) B X Z := by
  have hg : stoR o [.ary k n m] (.row e l) = .row e l' := by simp only [stoR, hw]
  obtain ⟨vv, h1, h2⟩ := h.ev hy
  obtain ⟨⟨u9, c9, r9, g1, ⟨rfl, hk⟩, g3, g4⟩, _⟩ := storC_ok hs h2
  have hvv : vv.cells = List.toArray [Value.int k v] := by
    have g4 : r9 = [] := g4
    have g3 : [Value.int k v] = c9 := by simpa [Value.cells] using g3
    have g5 : vv.cells.toList = [Value.int k v] := by rw [g1, g4, ← g3]; rfl
    rw [← g5]
  obtain ⟨u, h5, b, o1, ⟨b1, h6, h6'⟩, rfl, h0, hlt⟩ := h.ev hx
  cases h6'
  obtain ⟨b', h7, h8, h9, h10⟩ := h.rowAt hi
  rw [h6] at h7; cases h7
  obtain ⟨hn0, hn, ⟨r, hr⟩, hin⟩ := arr_in hc h9
  obtain ⟨s0, s1, rfl⟩ := seto_out hm
  have hok : OkL ρ (fnd σ.res) (mm S M) w [.ary k n (xs.set x0.toNat v)] ((xs.set x0.toNat v).map (Value.int k)) := by
    refine ⟨.agg (List.toArray ((xs.set x0.toNat v).map (Value.int k))), _, [], (List.append_nil _).symm, ⟨_, ⟨hn0, by simpa using hn, rfl, fun z hz => ?_⟩, .inl ⟨rfl, rfl⟩⟩, rfl, rfl⟩
    rcases List.mem_or_eq_of_mem_set hz with hz | rfl
    · exact hin z hz
    · exact hk
  obtain ⟨h11, h12⟩ := setW_ok l o hw h9 hok
  have hlen : o + xs.length ≤ (γ i).length := by simpa using h11
  have hset := setAt_arr (v := v) (show x0.toNat < xs.length by omega) o hr
  refine y_st (ι i) (vs := [Value.int k v]) h.hp h10 h5 h1 hvv (SzOk.at hG.sz hz) rfl (Nat.ble_eq_true_of_le (by simp; omega)) (fun u hu => by simp at hu; rw [hu]; rfl) fun w' hp hA => ?_
  rw [hset] at hp hA
  have hres : S.set (ι i) (rowR e b (setAt (γ i) o ((xs.set x0.toNat v).map (Value.int k)))) = S.set (ι i) (resOf (ρ i) (setAt (γ i) o ((xs.set x0.toNat v).map (Value.int k))) (μ i) (.row e l')) := by
    show _ = S.set (ι i) (rowR e (blk (ρ i)) _)
    rw [h6]; rfl
  rw [hres] at hp hA
  refine Reg.nil ⟨rfl, EnvS.refl _ _, _, _, _, _, _, h.upd (r := .row e l') (g := stoR o [.ary k n (xs.set x0.toNat v)]) (c := stoC o [.ary k n (xs.set x0.toNat v)] (fnd σ.res i)) hi hg hp hA (fun p e' t' xs he => by cases he) ⟨⟨b, h6⟩, ?_⟩⟩
  rw [← setAt_eq _ _ _ h11] at h12
  refine OkL.res (fun j p e' t' xs hj => ?_) l' (OkL.adv hA l' h12)
  rw [fnd_upd]
  by_cases he : j = i
  · subst he; rw [hi] at hj; cases hj
  · rw [if_neg he, hj]; rfl
end
end Go.Rx
namespace Go.Rx
open Go Go.Sx Go.RowKit
variable [Trk] [Sg] [Sf]
def Le (R R' : Nat → Option AR) : Prop := ∀ i a, R i = some a → R' i = some a
theorem bindS {α β : Type} {o : Option α} {f : α → Option β} {z : β} (h : Option.bind o f = some z) : ∃ y, o = some y ∧ f y = some z := by
  cases o with
  | none => cases h
  | some y => exact ⟨y, rfl, h⟩
section
variable {R R' : Nat → Option AR} {G : Gx}
theorem toD1_mono (hR : Le R R') : ∀ (t : Ty) (s : SV) {x : den t}, toD1 R t s = some x → toD1 R' t s = some x := by
  intro t s x h
  cases t with
  | sl t =>
    cases s with
    | own i =>
      have h : (match R i with
        | some (.own _ c xs) => castD c.ty (.sl t) xs
        | _ => none) = some x := h
      show (match R' i with
        | some (.own _ c xs) => castD c.ty (.sl t) xs
        | _ => none) = some x
      cases hi : R i with
      | none => rw [hi] at h; exact (noS h).elim
      | some a => rw [hi] at h; rw [hR i a hi]; exact h
    | int _ _ | bool _ | dat _ _ | ary _ _ _ | str _ _ | agg _ | ptr _ _ | ep _ _ _ _ _ | rp _ _ | fv _ _ _ | fn _ _ | nilS | raw _ | it _ _ | np _ _ | ap _ _ _ _ | undef | dead | tup _ => exact h
  | mp m k u =>
    cases s with
    | own i =>
      have h : (match R i with
        | some (.own _ c xs) => castD c.ty (.mp m k u) xs
        | _ => none) = some x := h
      show (match R' i with
        | some (.own _ c xs) => castD c.ty (.mp m k u) xs
        | _ => none) = some x
      cases hi : R i with
      | none => rw [hi] at h; exact (noS h).elim
      | some a => rw [hi] at h; rw [hR i a hi]; exact h
    | int _ _ | bool _ | dat _ _ | ary _ _ _ | str _ _ | agg _ | ptr _ _ | ep _ _ _ _ _ | rp _ _ | fv _ _ _ | fn _ _ | nilS | raw _ | it _ _ | np _ _ | ap _ _ _ _ | undef | dead | tup _ => exact h
  | int _ | bool | st _ | arr _ _ => exact h
theorem toL_mono (hR : Le R R') (l : List Ty) : ∀ (ss : List SV) {y : tupT l}, toL R l ss = some y → toL R' l ss = some y := by
  induction l with
  | nil => intro ss y h; rw [toL_nil] at h; exact (noS h).elim
  | cons t l ih =>
    intro ss y h
    cases l with
    | nil =>
      obtain ⟨s, rfl, h1⟩ := toL_one h
      exact toD1_mono hR t s h1
    | cons u l =>
      obtain ⟨s, r, x, z, rfl, h1, h2, rfl⟩ := toL_two h
      rw [toL_2, toD1_mono hR t s h1, ih r h2]
theorem toD_mono (hR : Le R R') (t : Ty) (s : SV) {x : den t} (h : toD R t s = some x) : toD R' t s = some x := by
  cases t with
  | st n =>
    cases s with
    | agg l =>
      have h : (match toL R (Sf.ft n) l with
        | some y => some (Sf.mkS n y)
        | none => none) = some x := h
      show (match toL R' (Sf.ft n) l with
        | some y => some (Sf.mkS n y)
        | none => none) = some x
      generalize hy : toL R (Sf.ft n) l = o at h
      cases o with
      | none => exact (noS h).elim
      | some y => rw [toL_mono hR _ l hy]; exact h
    | int _ _ | bool _ | dat _ _ | ary _ _ _ | own _ | str _ _ | ptr _ _ | ep _ _ _ _ _ | rp _ _ | fv _ _ _ | fn _ _ | nilS | raw _ | it _ _ | np _ _ | ap _ _ _ _ | undef | dead | tup _ => exact h
  | int k => exact toD1_mono hR (.int k) s h
  | bool => exact toD1_mono hR .bool s h
  | sl t => exact toD1_mono hR (.sl t) s h
  | arr k n => exact toD1_mono hR (.arr k n) s h
  | mp m k u => exact toD1_mono hR (.mp m k u) s h
theorem toP_mono (hR : Le R R') (t : Ty) {l : List SV} {x : den t} (h : toP R t l = some x) : toP R' t l = some x := by
  have key : (∀ n, t ≠ .st n) → toP R' t l = some x := fun hs => by
    obtain ⟨s, rfl, h1⟩ := toP_one h hs
    have h2 := toD_mono hR t s h1
    cases t with
    | st n => exact absurd rfl (hs n)
    | int _ | bool | sl _ | arr _ _ | mp _ _ _ => exact h2
  cases t with
  | st n => exact toD_mono hR (.st n) (.agg l) h
  | int _ | bool | sl _ | arr _ _ | mp _ _ _ => exact key fun n e => by cases e
theorem toPt_mono (hR : Le R R') (t : Ty) (s : SV) {x : den t} (h : toPt R t s = some x) : toPt R' t s = some x := by
  cases s with
  | rp v o => cases o with
    | zero => exact toP_mono hR t h
    | succ o => exact (noS h).elim
  | ptr i o => cases o with
    | succ o => exact (noS h).elim
    | zero =>
      have h : (match R i with
        | some (.row _ c) => toP R t c
        | _ => none) = some x := h
      show (match R' i with
        | some (.row _ c) => toP R' t c
        | _ => none) = some x
      cases hi : R i with
      | none => rw [hi] at h; exact (noS h).elim
      | some a =>
        rw [hi] at h; rw [hR i a hi]
        cases a with
        | own _ _ _ => exact (noS h).elim
        | row e c => exact toP_mono hR t h
  | np t' q => exact h
  | int _ _ | bool _ | dat _ _ | ary _ _ _ | own _ | str _ _ | agg _ | ep _ _ _ _ _ | fv _ _ _ | fn _ _ | nilS | raw _ | it _ _ | ap _ _ _ _ | undef | dead | tup _ => exact (noS h).elim
theorem boxS_mono (hR : Le R R') (s : SV) {x : SV} (h : boxS R s = some x) : boxS R' s = some x := by
  cases s with
  | rp v o => exact h
  | ptr i o =>
    have h : (match (generalizing := false) o, R i with
      | 0, some (.row _ [s]) => some s
      | _, _ => none) = some x := h
    show (match (generalizing := false) o, R' i with
      | 0, some (.row _ [s]) => some s
      | _, _ => none) = some x
    cases hi : R i with
    | none => rw [hi] at h; cases o <;> exact (noS h).elim
    | some a => rw [hi] at h; rw [hR i a hi]; exact h
  | np _ _ | int _ _ | bool _ | dat _ _ | ary _ _ _ | own _ | str _ _ | agg _ | ep _ _ _ _ _ | fv _ _ _ | fn _ _ | nilS | raw _ | it _ _ | ap _ _ _ _ | undef | dead | tup _ => exact (noS h).elim
theorem toNp_mono (hR : Le R R') (t : Ty) (s : SV) {x : Option (den t)} (h : toNp R t s = some x) : toNp R' t s = some x := by
  have key : ∀ s : SV, (match toPt R t s with
      | some x => some (some x)
      | none => none) = some x → (match toPt R' t s with
      | some x => some (some x)
      | none => none) = some x := fun s h => by
    cases hp : toPt R t s with
    | none => rw [hp] at h; exact (noS h).elim
    | some y => rw [hp] at h; rw [toPt_mono hR t s hp]; exact h
  cases s with
  | rp v o => exact key (.rp v o) h
  | ptr i o => exact key (.ptr i o) h
  | np _ _ => exact h
  | int _ _ | bool _ | dat _ _ | ary _ _ _ | own _ | str _ _ | agg _ | ep _ _ _ _ _ | fv _ _ _ | fn _ _ | nilS | raw _ | it _ _ | ap _ _ _ _ | undef | dead | tup _ => exact (noS h).elim
theorem toB_mono (hR : Le R R') : ∀ (b : Bool) (t : Ty) (s : SV) {x : denB b t}, toB R b t s = some x → toB R' b t s = some x
  | false, t, s, _, h => toPt_mono hR t s h
  | true, t, s, x, h => by
    have h : (match boxS R s with
      | some s' => toNp R t s'
      | none => none) = some x := h
    show (match boxS R' s with
      | some s' => toNp R' t s'
      | none => none) = some x
    cases hb : boxS R s with
    | none => rw [hb] at h; exact (noS h).elim
    | some s' => rw [hb] at h; rw [boxS_mono hR s hb]; exact toNp_mono hR t s' h
theorem toBs_mono (hR : Le R R') : ∀ (cs : List (Bool × Ty)) (ss : List SV) {x : denBs cs}, toBs R cs ss = some x → toBs R' cs ss = some x
  | [], ss, x, h => by cases ss <;> exact h
  | (b, t) :: cs, ss, x, h => by
    cases ss with
    | nil => exact (noS h).elim
    | cons s l =>
      have h : (match toB R b t s with
        | some x => match toBs R cs l with
          | some r => some (x, r)
          | none => none
        | none => none) = some x := h
      show (match toB R' b t s with
        | some x => match toBs R' cs l with
          | some r => some (x, r)
          | none => none
        | none => none) = some x
      cases hx : toB R b t s with
      | none => rw [hx] at h; exact (noS h).elim
      | some y =>
        rw [hx] at h
        cases hy : toBs R cs l with
        | none => rw [hy] at h; exact (noS h).elim
        | some z => rw [hy] at h; rw [toB_mono hR b t s hx, toBs_mono hR cs l hy]; exact h
theorem toCl_mono (hR : Le R R') {g : Nat} {cs : List (Bool × Ty)} (s : SV) {x : denBs cs} (h : toCl R g cs s = some x) : toCl R' g cs s = some x := by
  unfold toCl at h ⊢
  cases hb : boxS R s with
  | none => rw [hb] at h; exact (noS h).elim
  | some s' =>
    rw [hb] at h; rw [boxS_mono hR s hb]
    cases s' with
    | fn g' l =>
      simp only at h ⊢
      cases hg : Nat.beq g' g with
      | false => rw [hg] at h; exact (noS h).elim
      | true => rw [hg] at h; exact toBs_mono hR cs l h
    | np _ _ | int _ _ | bool _ | dat _ _ | ary _ _ _ | own _ | str _ _ | agg _ | ep _ _ _ _ _ | fv _ _ _ | nilS | raw _ | it _ _ | ap _ _ _ _ | undef | dead | tup _ | rp _ _ | ptr _ _ => exact (noS h).elim
theorem cap1_mono (hR : Le R R') (p : Pt) (s : SV) {x : p.den} (h : cap1 R p s = some x) : cap1 R' p s = some x := by
  cases p with
  | d _ => exact (noS h).elim
  | fn _ _ => exact (noS h).elim
  | nl => exact (noS h).elim
  | pt t => exact toPt_mono hR t s h
  | pp t => exact toB_mono hR true t s h
  | cl g cs => exact toCl_mono hR s h
theorem capP_mono (hR : Le R R') : ∀ (ps : List Pt) (ss : List SV) {y : denP ps}, capP R ps ss = some y → capP R' ps ss = some y
  | [], ss, y, h => by cases ss <;> exact h
  | p :: ps, ss, y, h => by
    cases ss with
    | nil => exact (noS h).elim
    | cons s l =>
      have h : (match cap1 R p s with
        | some x => match capP R ps l with
          | some r => some (x, r)
          | none => none
        | none => none) = some y := h
      show (match cap1 R' p s with
        | some x => match capP R' ps l with
          | some r => some (x, r)
          | none => none
        | none => none) = some y
      cases hx : cap1 R p s with
      | none => rw [hx] at h; exact (noS h).elim
      | some x =>
        rw [hx] at h
        cases hy : capP R ps l with
        | none => rw [hy] at h; exact (noS h).elim
        | some z => rw [hy] at h; rw [cap1_mono hR p s hx, capP_mono hR ps l hy]; exact h
theorem closF_mono (hR : Le R R') {g : Nat} {caps : List SV} {a : List Ty} {r : Ty} {F : denF a r} (h : closF G R g caps a r = some F) : closF G R' g caps a r = some F := by
  unfold closF at h ⊢
  cases hf : fnd G.fs g with
  | none => rw [hf] at h; exact (noS h).elim
  | some c =>
    rw [hf] at h
    simp only at h ⊢
    unfold mkClos2 at h ⊢
    cases hy : capP R (c.ps.drop a.length) caps with
    | none => rw [hy] at h; exact (noS h).elim
    | some y => rw [hy] at h; rw [capP_mono hR _ _ hy]; exact h
theorem arg1_mono (hR : Le R R') (p : Pt) (s : SV) {x : p.den} (h : arg1 G R p s = some x) : arg1 G R' p s = some x := by
  cases p with
  | d t => exact toD_mono hR t s h
  | pt t => exact toPt_mono hR t s h
  | nl => exact h
  | pp t => exact toB_mono hR true t s h
  | cl g cs => exact toCl_mono hR s h
  | fn a r =>
    cases s with
    | fn g caps =>
      have h : closF G R g caps a r = some x := h
      exact closF_mono hR h
    | int _ _ | bool _ | dat _ _ | ary _ _ _ | own _ | str _ _ | agg _ | ep _ _ _ _ _ | rp _ _ | fv _ _ _ | ptr _ _ | nilS | raw _ | it _ _ | np _ _ | ap _ _ _ _ | undef | dead | tup _ => exact h
theorem argsD_mono (hR : Le R R') : ∀ (ps : List Pt) (ss : List SV) {y : denP ps}, argsD G R ps ss = some y → argsD G R' ps ss = some y
  | [], ss, y, h => by cases ss <;> exact h
  | p :: ps, ss, y, h => by
    cases ss with
    | nil => exact (noS h).elim
    | cons s l =>
      have h : (match arg1 G R p s with
        | some x => match argsD G R ps l with
          | some r => some (x, r)
          | none => none
        | none => none) = some y := h
      show (match arg1 G R' p s with
        | some x => match argsD G R' ps l with
          | some r => some (x, r)
          | none => none
        | none => none) = some y
      cases hx : arg1 G R p s with
      | none => rw [hx] at h; exact (noS h).elim
      | some x =>
        rw [hx] at h
        cases hy : argsD G R ps l with
        | none => rw [hy] at h; exact (noS h).elim
        | some z => rw [hy] at h; rw [arg1_mono hR p s hx, argsD_mono hR ps l hy]; exact h
theorem frz1_mono (hR : Le R R') {i : Nat} {as_ : List Ac} (h : frz1 R i = some as_) : frz1 R' i = some as_ := by
  unfold frz1 at h ⊢
  cases hi : R i with
  | none => rw [hi] at h; exact (noS h).elim
  | some a => rw [hi] at h; rw [hR i a hi]; exact h
theorem frz_mono (hR : Le R R') : ∀ (I : List Nat) {as_ : List Ac}, frz R I = some as_ → frz R' I = some as_
  | [], as_, h => h
  | i :: I, as_, h => by
    simp only [frz] at h ⊢
    cases hh : has I i with
    | true => rw [hh, cond_true] at h; rw [cond_true]; exact frz_mono hR I h
    | false =>
      rw [hh, cond_false] at h
      rw [cond_false]
      cases h1 : frz1 R i with
      | none => rw [h1] at h; exact (noS h).elim
      | some a =>
        rw [h1] at h
        cases h2 : frz R I with
        | none => rw [h2] at h; exact (noS h).elim
        | some r => rw [h2] at h; rw [frz1_mono hR h1, frz_mono hR I h2]; exact h
theorem listD_mono (hR : Le R R') (u : Ty) : ∀ (ss : List SV) {xs : List (den u)}, listD u R ss = some xs → listD u R' ss = some xs
  | [], xs, h => h
  | s :: l, xs, h => by
    simp only [listD] at h ⊢
    cases h1 : toD R u s with
    | none => rw [h1] at h; exact (noS h).elim
    | some x =>
      rw [h1] at h
      cases h2 : listD u R l with
      | none => rw [h2] at h; exact (noS h).elim
      | some r => rw [h2] at h; rw [toD_mono hR u s h1, listD_mono hR u l h2]; exact h
theorem callF_mono (hR : Le R R') {r : Ty} : ∀ (a : List Ty) (f : denF a r) (ss : List SV) {o : Option (den r)}, callF r a f R ss = some o → callF r a f R' ss = some o
  | [], f, ss, o, h => by cases ss <;> exact h
  | t :: a, f, ss, o, h => by
    cases ss with
    | nil => exact (noS h).elim
    | cons s l =>
      have h : (match toD R t s with
        | some x => callF r a (f x) R l
        | none => none) = some o := h
      show (match toD R' t s with
        | some x => callF r a (f x) R' l
        | none => none) = some o
      cases hx : toD R t s with
      | none => rw [hx] at h; exact (noS h).elim
      | some x => rw [hx] at h; rw [toD_mono hR t s hx]; exact callF_mono hR a (f x) l h
theorem evL_mono {E E' : Operand → Option SV} (hE : ∀ x s, E x = some s → E' x = some s) : ∀ (xs : List Operand) {ss : List SV}, evL E xs = some ss → evL E' xs = some ss
  | [], ss, h => h
  | x :: xs, ss, h => by
    simp only [evL] at h ⊢
    cases h1 : E x with
    | none => rw [h1] at h; exact (noS h).elim
    | some s =>
      rw [h1] at h
      cases h2 : evL E xs with
      | none => rw [h2] at h; exact (noS h).elim
      | some r => rw [h2] at h; rw [hE x s h1, evL_mono hE xs h2]; exact h
end
end Go.Rx
namespace Go.Rx
open Go Go.Sx Go.RowKit
variable [Trk] [Sg] [Sf] {P : Program} [Se P]
variable [Anch]
/-- An operation does what was reckoned, wherever as much is known. -/
abbrev Does (P : Program) [Se P] (N : Nat) (d : Option Nat) (op : Op) (E : Operand → Option SV) (R : Nat → Option AR) (as_ : List Ac) : Prop :=
  ∀ {w0 w : World} {Mu M : List Nat} {σ : AS} {L : Env} {S : List Res} {ρ : Nat → Value} {γ : Nat → List Value} {μ : Nat → List Nat} {ι : Nat → Nat} {ops : Array Oper} {ds : List Deferred} {B : Out} {X : Nat → Out} {Z : List PanicEntry → Out} {ty : TypeId} {pos : String} {af : Array Edge},
    (∀ x s, E x = some s → evS σ.env x = some s) → Le R (fnd σ.res) → HS w0 Mu M σ L w S ρ γ μ ι → Goes P N ops ds L w ⟨d, op, ty, pos, af, none⟩ w0 Mu M (apps d as_ σ) B X Z
section
variable {N : Nat} {G : Gx} {E : Operand → Option SV} {R : Nat → Option AR} {Y : Type} {K : List Ac → Option Y} {z : Y} {d : Nat}
theorem arS_ok (hN : Nat.blt d N = true) {b : BinOp} {t t' : Nat} {x y : Operand} {k : IntKind} {i j : Int} (hx : E x = some (.int k i)) (hy : E y = some (.int k j)) (hc : arS K b k i j = some z) : ∃ as_, K as_ = some z ∧ Does P N (some d) (.binOp b t x y t') E R as_ := by
  unfold arS at hc
  cases hb : cmp b i j with
  | some r =>
    rw [hb] at hc
    exact ⟨_, hc, fun hE _ h => c_cmp h hN (hE _ _ hx) (hE _ _ hy) hb⟩
  | none =>
    rw [hb] at hc
    cases b with
    | add => obtain ⟨n, h1, h2⟩ := bindS hc; exact ⟨_, h2, fun hE _ h => c_add h hN (hE _ _ hx) (hE _ _ hy) h1⟩
    | sub => obtain ⟨n, h1, h2⟩ := bindS hc; exact ⟨_, h2, fun hE _ h => c_sub h hN (hE _ _ hx) (hE _ _ hy) h1⟩
    | mul => obtain ⟨n, h1, h2⟩ := bindS hc; exact ⟨_, h2, fun hE _ h => c_mul h hN (hE _ _ hx) (hE _ _ hy) h1⟩
    | quo => obtain ⟨n, h1, h2⟩ := bindS hc; exact ⟨_, h2, fun hE _ h => c_quo h hN (hE _ _ hx) (hE _ _ hy) h1⟩
    | rem => obtain ⟨n, h1, h2⟩ := bindS hc; exact ⟨_, h2, fun hE _ h => c_rem h hN (hE _ _ hx) (hE _ _ hy) h1⟩
    | and => exact ⟨_, hc, fun hE _ h => c_and h hN (hE _ _ hx) (hE _ _ hy)⟩
    | or | xor | shl | shr | andNot | eql | neq | lss | leq | gtr | geq => exact (noS hc).elim
theorem eqSt_ok [Sl (P := P)] (hG : GxOk P G) (hN : Nat.blt d N = true) {b : BinOp} {t t' : Nat} {x y : Operand} {s s' : SV} (hx : E x = some s) (hy : E y = some s') (hc : eqSt G R K b t s s' = some z) : ∃ as_, K as_ = some z ∧ Does P N (some d) (.binOp b t x y t') E R as_ := by
  unfold eqSt at hc
  cases hl : lk G.eq t with
  | none => rw [hl] at hc; exact (noS hc).elim
  | some n =>
    rw [hl] at hc
    simp only at hc
    cases ho : owns s with
    | cons _ _ => rw [ho] at hc; exact (noS hc).elim
    | nil =>
      cases ho' : owns s' with
      | cons _ _ => rw [ho, ho'] at hc; exact (noS hc).elim
      | nil =>
        rw [ho, ho'] at hc
        simp only at hc
        cases hp : toD R (.st n) s with
        | none => rw [hp] at hc; exact (noS hc).elim
        | some p =>
          rw [hp] at hc
          simp only at hc
          cases hq : toD R (.st n) s' with
          | none => rw [hq] at hc; exact (noS hc).elim
          | some q =>
            rw [hq] at hc
            cases b with
            | eql => exact ⟨_, hc, fun hE hR h => c_eqS (b := .eql) h hG hN hl (.inl rfl) (hE _ _ hx) (hE _ _ hy) ho ho' (toD_mono hR _ _ hp) (toD_mono hR _ _ hq)⟩
            | neq => exact ⟨_, hc, fun hE hR h => c_eqS (b := .neq) h hG hN hl (.inr rfl) (hE _ _ hx) (hE _ _ hy) ho ho' (toD_mono hR _ _ hp) (toD_mono hR _ _ hq)⟩
            | add | sub | mul | quo | rem | and | or | xor | andNot | lss | leq | gtr | geq | shl | shr => exact (noS hc).elim
theorem binS_ok [Sl (P := P)] (hG : GxOk P G) (hN : Nat.blt d N = true) {b : BinOp} {t t' : Nat} {x y : Operand} {s s' : SV} (hx : E x = some s) (hy : E y = some s') (hc : binS G R K b t s s' = some z) : ∃ as_, K as_ = some z ∧ Does P N (some d) (.binOp b t x y t') E R as_ := by
  cases s with
  | int k i =>
    cases s' with
    | int k' j =>
      have key : (match kEq k k' with
        | true => arS K b k i j
        | false => none) = some z → ∃ as_, K as_ = some z ∧ Does P N (some d) (.binOp b t x y t') E R as_ := fun hq => by
        cases hk : kEq k k' with
        | false => rw [hk] at hq; exact (noS hq).elim
        | true =>
          rw [hk] at hq
          have := kEq_eq hk
          subst this
          exact arS_ok hN hx hy hq
      cases b with
      | shr =>
        have hc : Option.bind (shrO i j k.bits) (fun n => K [.put (.int k n)]) = some z := hc
        obtain ⟨n, h1, h2⟩ := bindS hc; exact ⟨_, h2, fun hE _ h => c_shr h hN (hE _ _ hx) (hE _ _ hy) h1⟩
      | shl =>
        have hc : Option.bind (shlO k i j) (fun n => K [.put (.int k n)]) = some z := hc
        obtain ⟨n, h1, h2⟩ := bindS hc; exact ⟨_, h2, fun hE _ h => c_shl h hN (hE _ _ hx) (hE _ _ hy) h1⟩
      | add | sub | mul | quo | rem | and | or | xor | andNot | eql | neq | lss | leq | gtr | geq => exact key hc
    | bool _ | dat _ _ | ary _ _ _ | own _ | str _ _ | agg _ | ep _ _ _ _ _ | fv _ _ _ | fn _ _ | nilS | raw _ | it _ _ | np _ _ | ap _ _ _ _ | undef | dead | tup _ | rp _ _ | ptr _ _ => exact (noS hc).elim
  | bool p =>
    cases s' with
    | bool q =>
      simp only [binS] at hc
      cases ht : lk G.ty t with
      | none => rw [ht] at hc; exact (noS hc).elim
      | some u =>
        rw [ht] at hc
        cases u with
        | bool =>
          have hu := (TyOk.at hG.ty ht).2.1 rfl
          cases b with
          | eql => exact ⟨_, hc, fun hE _ h => c_eqB h hN hu (hE _ _ hx) (hE _ _ hy)⟩
          | neq => exact ⟨_, hc, fun hE _ h => c_neB h hN hu (hE _ _ hx) (hE _ _ hy)⟩
          | add | sub | mul | quo | rem | and | or | xor | andNot | lss | leq | gtr | geq | shl | shr => exact (noS hc).elim
        | int _ | sl _ | st _ | arr _ _ | mp _ _ _ => exact (noS hc).elim
    | int _ _ | dat _ _ | ary _ _ _ | own _ | str _ _ | agg _ | ep _ _ _ _ _ | fv _ _ _ | fn _ _ | nilS | raw _ | it _ _ | np _ _ | ap _ _ _ _ | undef | dead | tup _ | rp _ _ | ptr _ _ => exact (noS hc).elim
  | agg l => exact eqSt_ok hG hN hx hy hc
  | str n q => exact eqSt_ok hG hN hx hy hc
  | dat _ _ | ary _ _ _ | own _ | ep _ _ _ _ _ | fv _ _ _ | fn _ _ | nilS | raw _ | it _ _ | np _ _ | ap _ _ _ _ | undef | dead | tup _ | rp _ _ | ptr _ _ => exact (noS hc).elim
theorem toD_own {e : Ty} {j : Nat} {xs : List (den e)} (h : toD R (.sl e) (.own j) = some xs) : ∃ p e', R j = some (.own p (.sl e' e) xs) := by
  have h : (match R j with
    | some (.own _ c xs) => castD c.ty (.sl e) xs
    | _ => none) = some xs := h
  cases hR : R j with
  | none => rw [hR] at h; exact (noS h).elim
  | some a =>
    rw [hR] at h
    cases a with
    | row _ _ => exact (noS h).elim
    | own p c ys =>
      obtain ⟨he, h⟩ := castD_some h
      rcases c with ⟨e', t'⟩ | ⟨m9, k9, v9⟩
      rotate_left
      · cases he
      cases he
      have h : ys = xs := h
      subst h; exact ⟨p, e', rfl⟩
theorem iaS_ok [Sl (P := P)] (hG : GxOk P G) (hN : Nat.blt d N = true) {t e b : Nat} {u : Ty} {x y : Operand} {s : SV} {k : IntKind} {i : Int} (hl : lk G.sl t = some (e, u, b)) (hx : E x = some s) (hy : E y = some (.int k i)) (hc : iaS R K u i s = some z) : ∃ as_, K as_ = some z ∧ Does P N (some d) (.indexAddr t x y) E R as_ := by
  have key : owns s = [] → (match toD R (.sl u) s with
    | some xs => Option.bind (ixo (show List (den u) from xs) i) fun z => K [.put (.rp (ofD u z) 0)]
    | none => none) = some z → ∃ as_, K as_ = some z ∧ Does P N (some d) (.indexAddr t x y) E R as_ := fun ho hc => by
    cases hd : toD R (.sl u) s with
    | none => rw [hd] at hc; exact (noS hc).elim
    | some xs =>
      rw [hd] at hc
      obtain ⟨q, h1, h2⟩ := bindS hc
      exact ⟨_, h2, fun hE hR h => c_iaR h hG hN hl (hE _ _ hx) ho (toD_mono hR _ _ hd) (hE _ _ hy) h1⟩
  cases s with
  | own j =>
    have hc : (match toD R (.sl u) (.own j) with
      | some xs => Option.bind (ixo (show List (den u) from xs) i) fun z => K [.put (.ep j u i (some z) 0)]
      | none => none) = some z := hc
    cases hd : toD R (.sl u) (.own j) with
    | none => rw [hd] at hc; exact (noS hc).elim
    | some xs =>
      rw [hd] at hc
      obtain ⟨q, h1, h2⟩ := bindS hc
      obtain ⟨p, e', hj⟩ := toD_own hd
      exact ⟨_, h2, fun hE hR h => c_iaO h hG hN hl (hE _ _ hx) (hR _ _ hj) (hE _ _ hy) h1⟩
  | dat _ _ => exact key rfl hc
  | nilS => exact key rfl hc
  | int _ _ | bool _ | ary _ _ _ | str _ _ | agg _ | ep _ _ _ _ _ | fv _ _ _ | fn _ _ | raw _ | it _ _ | np _ _ | ap _ _ _ _ | undef | dead | tup _ | rp _ _ | ptr _ _ => exact (noS hc).elim
theorem loadS_ok [Sl (P := P)] (hG : GxOk P G) (hN : Nat.blt d N = true) {t : Nat} {x : Operand} {v s : SV} (hx : E x = some v) (hc : loadS G R t v = some s) : Does P N (some d) (.load t x) E R [.put s] := by
  cases v with
  | rp v o => exact fun hE _ h => c_loadR h hG hN (hE _ _ hx) hc
  | ptr i o =>
    have hc : (match R i with
      | some (.row _ l) => loadC G t o (.agg l)
      | _ => none) = some s := hc
    cases hi : R i with
    | none => rw [hi] at hc; exact (noS hc).elim
    | some a =>
      rw [hi] at hc
      cases a with
      | own _ _ _ => exact (noS hc).elim
      | row e l =>
        have hc : loadC G t o (.agg l) = some s := hc
        intro w0 w Mu M σ L S ρ γ μ ι ops ds B X Z ty pos af hE hR h
        exact c_loadP h hG hN (hE _ _ hx) (hR _ _ hi) hc
  | ep i u ix q o =>
    cases q with
    | none => exact (noS hc).elim
    | some q => exact fun hE _ h => c_loadE h hG hN (hE _ _ hx) hc
  | int _ _ | bool _ | ary _ _ _ | str _ _ | agg _ | fv _ _ _ | fn _ _ | raw _ | it _ _ | np _ _ | ap _ _ _ _ | undef | dead | tup _ | dat _ _ | own _ | nilS => exact (noS hc).elim
theorem stoS_ok [Sl (P := P)] (hG : GxOk P G) {t n : Nat} {x y : Operand} {s v : SV} {ns : List SV} (hy : E y = some s) (hs : storC s = some ns) (hz : lk G.sz t = some n) (hn : widths ns = some n) (hx : E x = some v) (hc : stoS R K ns v = some z) : ∃ as_, K as_ = some z ∧ Does P N none (.store t x y) E R as_ := by
  cases v with
  | ptr i o =>
    have hc : (match R i with
      | some (.row e l) => match setW l o ns with
        | some _ => K [.sto i o ns]
        | none => none
      | _ => none) = some z := hc
    cases hi : R i with
    | none => rw [hi] at hc; exact (noS hc).elim
    | some a =>
      rw [hi] at hc
      cases a with
      | own _ _ _ => exact (noS hc).elim
      | row e l =>
        simp only at hc
        cases hw : setW l o ns with
        | none => rw [hw] at hc; exact (noS hc).elim
        | some l' =>
          rw [hw] at hc
          exact ⟨_, hc, fun hE hR h => c_storeP h hG (hE _ _ hy) hs (hE _ _ hx) (hR _ _ hi) hw hz hn⟩
  | ep i u ix q o =>
    cases q with
    | none => exact (noS hc).elim
    | some q =>
      have hc : (match R i with
        | some (.own p (.sl e u') xs) => match castD (.sl u') (.sl u) xs with
          | some xs => match setW (Rx.cellsOf (ofD u q)) o ns with
            | some l' => match toP R u l' with
              | some z2 => match frz R (ownsLL ns) with
                | some fz => match has (ownsLL ns) i with
                  | true => none
                  | false => Option.bind (seto (show List (den u) from xs) ix z2) fun m => K (fz ++ [.cnt i (.sl e u) m])
                | none => none
              | none => none
            | none => none
          | none => none
        | _ => none) = some z := hc
      cases hi : R i with
      | none => rw [hi] at hc; exact (noS hc).elim
      | some a =>
        rw [hi] at hc
        cases a with
        | row _ _ => exact (noS hc).elim
        | own p c xs =>
          rcases c with ⟨e, u'⟩ | ⟨m9, k9, v9⟩
          rotate_left
          · exact (noS hc).elim
          simp only at hc
          cases hcd : castD (.sl u') (.sl u) xs with
          | none => rw [hcd] at hc; exact (noS hc).elim
          | some xs' =>
            rw [hcd] at hc
            obtain ⟨he, hcd⟩ := castD_some hcd
            cases he
            have hcd : xs = xs' := hcd
            subst hcd
            simp only at hc
            cases hw : setW (Rx.cellsOf (ofD u q)) o ns with
            | none => rw [hw] at hc; exact (noS hc).elim
            | some l' =>
              rw [hw] at hc
              simp only at hc
              cases hd : toP R u l' with
              | none => rw [hd] at hc; exact (noS hc).elim
              | some z2 =>
                rw [hd] at hc
                simp only at hc
                cases hf : frz R (ownsLL ns) with
                | none => rw [hf] at hc; exact (noS hc).elim
                | some fz =>
                  rw [hf] at hc
                  simp only at hc
                  cases hh : has (ownsLL ns) i with
                  | true => rw [hh] at hc; exact (noS hc).elim
                  | false =>
                    rw [hh] at hc
                    obtain ⟨m, h1, h2⟩ := bindS hc
                    exact ⟨_, h2, fun hE hR h => c_storeE h hG (hE _ _ hy) hs (hE _ _ hx) (hR _ _ hi) hw (toP_mono hR u hd) (frz_mono hR _ hf) hh h1 hz hn⟩
  | ap s0 n0 x0 k =>
    have hq : stA R K ns n0 x0 k s0 = some z := hc
    clear hc
    cases s0 with
    | ptr i o =>
      have hp : (match (generalizing := false) R i with
        | some (.row _ l) => (match (generalizing := false) cellAt l o with
          | some (.ary q n' xs) => (match (generalizing := false) Nat.beq n' n0, Nat.beq k 1, ns with
            | true, true, [.int q' v] => (match kEq q' q with
              | true => Option.bind (seto xs x0 v) fun m => (match setW l o [.ary q n0 m] with
                | some _ => K [.sto i o [.ary q n0 m]]
                | none => none)
              | false => none)
            | _, _, _ => none)
          | _ => none)
        | _ => none) = some z := hq
      clear hq
      cases hi : R i with
      | none => rw [hi] at hp; exact (noS hp).elim
      | some a =>
        rw [hi] at hp
        cases a with
        | own _ _ _ => exact (noS hp).elim
        | row e l =>
          simp only at hp
          split at hp
          · rename_i q n' xs hcell
            split at hp
            · rename_i q' v hb hk
              have hb := Nat.eq_of_beq_eq_true hb
              have hk := Nat.eq_of_beq_eq_true hk
              subst hb; subst hk
              cases hk2 : kEq q' q with
              | false => rw [hk2] at hp; exact (noS hp).elim
              | true =>
                rw [hk2] at hp
                have hk3 := kEq_eq hk2
                subst hk3
                obtain ⟨m, h1, h2⟩ := bindS hp
                cases hw : setW l o [.ary q' n' m] with
                | none => simp only [hw] at h2; exact (noS h2).elim
                | some l' =>
                  simp only [hw] at h2
                  have hn1 : n = 1 := by
                    have hn : some 1 = some n := hn
                    exact (Option.some.inj hn).symm
                  subst hn1
                  exact ⟨_, h2, fun hE hR h => c_storeA h hG (hE _ _ hy) hs (hE _ _ hx) (hR _ _ hi) hcell h1 hw hz⟩
            · exact (noS hp).elim
          · exact (noS hp).elim
    | int _ _ | bool _ | ary _ _ _ | str _ _ | agg _ | fv _ _ _ | fn _ _ | undef | dead | tup _ | dat _ _ | own _ | nilS | raw _ | it _ _ | np _ _ | ep _ _ _ _ _ | rp _ _ | ap _ _ _ _ => exact (noS hq).elim
  | int _ _ | bool _ | ary _ _ _ | str _ _ | agg _ | fv _ _ _ | fn _ _ | raw _ | it _ _ | np _ _ | undef | dead | tup _ | dat _ _ | own _ | nilS | rp _ _ => exact (noS hc).elim
theorem lenS_ok (hN : Nat.blt d N = true) {t e : Nat} {x : Operand} {s : SV} (ht : P.underlying t = some (.slice e)) (hx : E x = some s) (hc : lenS R K s = some z) : ∃ as_, K as_ = some z ∧ Does P N (some d) (.call ⟨.builtin .len, #[x], #[t]⟩) E R as_ := by
  cases s with
  | dat u xs =>
    cases u with
    | sl u => exact ⟨_, hc, fun hE _ h => c_lenR h hN ht (hE _ _ hx)⟩
    | int _ | bool | st _ | arr _ _ | mp _ _ _ => exact (noS hc).elim
  | own i =>
    have hc : (match R i with
      | some (.own _ (.sl _ t) xs) => K [.put (.int .i64 (show List (den t) from xs).length)]
      | _ => none) = some z := hc
    cases hi : R i with
    | none => rw [hi] at hc; exact (noS hc).elim
    | some a =>
      rw [hi] at hc
      cases a with
      | row _ _ => exact (noS hc).elim
      | own p c xs =>
        rcases c with ⟨e, u⟩ | ⟨m9, k9, v9⟩
        rotate_left
        · exact (noS hc).elim
        exact ⟨_, hc, fun hE hR h => c_lenO h hN ht (hE _ _ hx) (hR _ _ hi)⟩
  | nilS => exact ⟨_, hc, fun hE _ h => c_lenN h hN ht (hE _ _ hx)⟩
  | int _ _ | bool _ | ary _ _ _ | str _ _ | agg _ | fv _ _ _ | fn _ _ | raw _ | it _ _ | np _ _ | ap _ _ _ _ | undef | dead | tup _ | rp _ _ | ptr _ _ | ep _ _ _ _ _ => exact (noS hc).elim
theorem appS_ok [Sl (P := P)] (hG : GxOk P G) (hN : Nat.blt d N = true) {t e b : Nat} {u : Ty} {x y : Operand} {s v : SV} {ys : List (den u)} {fz : List Ac} (hl : lk G.sl t = some (e, u, b)) (hx : E x = some v) (hy : E y = some s) (hd : toD R (.sl u) s = some ys) (hf : frz R (owns s) = some fz) (hc : appS d R K e u b fz (owns s) ys v = some z) :
    ∃ as_, K as_ = some z ∧ Does P N (some d) (.call ⟨.builtin .append, #[x, y], #[t, t]⟩) E R as_ := by
  cases v with
  | nilS =>
    have hc : Option.bind (appo b ([] : List (den u)) ys) (fun l => K (fz ++ [.new d (.own false (.sl e u) l), .put (.own d)])) = some z := hc
    obtain ⟨l, h1, h2⟩ := bindS hc
    exact ⟨_, h2, fun hE hR h => c_appN h hG hN hl (hE _ _ hx) (hE _ _ hy) (toD_mono hR _ _ hd) (frz_mono hR _ hf) h1⟩
  | own i =>
    have hc : (match R i with
      | some (.own p (.sl e' u') xs) => match castD (.sl u') (.sl u) xs with
        | some xs => match has (owns s) i with
          | true => none
          | false => match Nat.beq e' e with
            | true => Option.bind (appo b (show List (den u) from xs) ys) fun l => K (fz ++ [.hnd i (.own p (.sl e u) l), .put (.own i)])
            | false => none
        | none => none
      | _ => none) = some z := hc
    cases hi : R i with
    | none => rw [hi] at hc; exact (noS hc).elim
    | some a =>
      rw [hi] at hc
      cases a with
      | row _ _ => exact (noS hc).elim
      | own p c xs =>
        rcases c with ⟨e', u'⟩ | ⟨m9, k9, v9⟩
        rotate_left
        · exact (noS hc).elim
        simp only at hc
        cases hcd : castD (.sl u') (.sl u) xs with
        | none => rw [hcd] at hc; exact (noS hc).elim
        | some xs' =>
          rw [hcd] at hc
          obtain ⟨he, hcd⟩ := castD_some hcd
          cases he
          have hcd : xs = xs' := hcd
          subst hcd
          simp only at hc
          cases hh : has (owns s) i with
          | true => rw [hh] at hc; exact (noS hc).elim
          | false =>
            rw [hh] at hc
            simp only at hc
            cases hb : Nat.beq e' e with
            | false => rw [hb] at hc; exact (noS hc).elim
            | true =>
              rw [hb] at hc
              have := Nat.eq_of_beq_eq_true hb
              subst this
              obtain ⟨l, h1, h2⟩ := bindS hc
              exact ⟨_, h2, fun hE hR h => c_appO h hG hN hl (hE _ _ hx) (hR _ _ hi) (fun hm => by rw [has_iff.2 hm] at hh; cases hh) (hE _ _ hy) (toD_mono hR _ _ hd) (frz_mono hR _ hf) h1⟩
  | int _ _ | bool _ | ary _ _ _ | str _ _ | agg _ | fv _ _ _ | fn _ _ | raw _ | it _ _ | np _ _ | ap _ _ _ _ | undef | dead | tup _ | rp _ _ | ptr _ _ | ep _ _ _ _ _ | dat _ _ => exact (noS hc).elim
theorem evL_1 : ∀ {xs : List Operand} {s : SV}, evL E xs = some [s] → ∃ x, xs = [x] ∧ E x = some s
  | [], _, h => by cases h
  | x :: xs, s, h => by
    simp only [evL] at h
    cases h1 : E x with
    | none => rw [h1] at h; exact (noS h).elim
    | some a =>
      rw [h1] at h
      cases xs with
      | nil =>
        have h : [a] = [s] := Option.some.inj h
        cases h; exact ⟨x, rfl, h1⟩
      | cons y r =>
        simp only [evL] at h
        cases h2 : E y with
        | none => rw [h2] at h; exact (noS h).elim
        | some c =>
          rw [h2] at h
          cases h3 : evL E r with
          | none => rw [h3] at h; exact (noS h).elim
          | some q => rw [h3] at h; cases h
theorem evL_2 : ∀ {xs : List Operand} {s s' : SV}, evL E xs = some [s, s'] → ∃ x y, xs = [x, y] ∧ E x = some s ∧ E y = some s'
  | [], _, _, h => by cases h
  | x :: xs, s, s', h => by
    simp only [evL] at h
    cases h1 : E x with
    | none => rw [h1] at h; exact (noS h).elim
    | some a =>
      rw [h1] at h
      cases h2 : evL E xs with
      | none => rw [h2] at h; exact (noS h).elim
      | some r =>
        rw [h2] at h
        have h : a :: r = [s, s'] := Option.some.inj h
        cases h
        obtain ⟨y, rfl, h3⟩ := evL_1 h2
        exact ⟨x, y, rfl, h1, h3⟩
theorem mmS_out {f : Int → Int → Int} {s s' : SV} (hc : mmS K f s s' = some z) : ∃ k i j, s = .int k i ∧ s' = .int k j ∧ K [.put (.int k (f i j))] = some z := by
  cases s with
  | int k i =>
    cases s' with
    | int k' j =>
      have hq : (match kEq k k' with
        | true => K [.put (.int k (f i j))]
        | false => none) = some z := hc
      cases hk : kEq k k' with
      | false => rw [hk] at hq; exact (noS hq).elim
      | true =>
        rw [hk] at hq
        have := kEq_eq hk
        subst this
        exact ⟨k, i, j, rfl, rfl, hq⟩
    | bool _ | ary _ _ _ | str _ _ | agg _ | fv _ _ _ | fn _ _ | raw _ | it _ _ | np _ _ | ap _ _ _ _ | undef | dead | tup _ | rp _ _ | ptr _ _ | ep _ _ _ _ _ | dat _ _ | own _ | nilS => exact (noS hc).elim
  | bool _ | ary _ _ _ | str _ _ | agg _ | fv _ _ _ | fn _ _ | raw _ | it _ _ | np _ _ | ap _ _ _ _ | undef | dead | tup _ | rp _ _ | ptr _ _ | ep _ _ _ _ _ | dat _ _ | own _ | nilS => exact (noS hc).elim
theorem iaA_ok (hG : GxOk P G) (hN : Nat.blt d N = true) {t : TypeId} {x y : Operand} {s : SV} {k : IntKind} {i : Int} (hx : E x = some s) (hy : E y = some (.int k i)) (hc : iaA G K t i s = some z) : ∃ as_, K as_ = some z ∧ Does P N (some d) (.indexAddr t x y) E R as_ := by
  unfold iaA at hc
  cases hl : lk G.ar t with
  | none => rw [hl] at hc; exact (noS hc).elim
  | some q =>
    obtain ⟨len, m⟩ := q
    rw [hl] at hc
    obtain ⟨j, h1, h2⟩ := bindS hc
    cases hr : apS len m j s with
    | none => simp only [hr] at h2; exact (noS h2).elim
    | some r => simp only [hr] at h2; exact ⟨_, h2, fun hE _ h => c_iaA h hG hN hl (hE _ _ hx) (hE _ _ hy) h1 hr⟩
theorem arrAt_mono {R' : Nat → Option AR} (hR : ∀ i a, R i = some a → R' i = some a) {s : SV} {q : IntKind × Nat × List Int} (h : arrAt R s = some q) : arrAt R' s = some q := by
  cases s with
  | rp v o => exact h
  | ptr i o =>
    have h : (match R i with
      | some (.row _ l) => (match cellAt l o with
        | some (.ary k n l) => some (k, n, l)
        | _ => none)
      | _ => none) = some q := h
    show (match R' i with
      | some (.row _ l) => (match cellAt l o with
        | some (.ary k n l) => some (k, n, l)
        | _ => none)
      | _ => none) = some q
    cases hi : R i with
    | none => rw [hi] at h; exact (noS h).elim
    | some a => rw [hi] at h; rw [hR i a hi]; exact h
  | int _ _ | bool _ | ary _ _ _ | str _ _ | agg _ | fv _ _ _ | fn _ _ | undef | dead | tup _ | dat _ _ | own _ | nilS | raw _ | it _ _ | np _ _ | ep _ _ _ _ _ | ap _ _ _ _ => exact (noS h).elim
theorem ldA_ok [Sl (P := P)] (hG : GxOk P G) (hN : Nat.blt d N = true) {t : TypeId} {x : Operand} {v : SV} (hx : E x = some v) (hc : ldA G R K t v = some z) : ∃ as_, K as_ = some z ∧ Does P N (some d) (.load t x) E R as_ := by
  cases v with
  | ap s n x0 k =>
    have hq : (match (generalizing := false) lk G.tb.ag t, Nat.beq k 1 with
      | some 0, true => (match arrAt R s with
        | some (q, n', l) => (match Nat.beq n' n with
          | true => Option.bind (ixo l x0) fun y => K [.put (.int q y)]
          | false => none)
        | none => none)
      | _, _ => none) = some z := hc
    clear hc
    split at hq
    · rename_i ha hk
      have hk := Nat.eq_of_beq_eq_true hk
      subst hk
      cases hs : arrAt R s with
      | none => rw [hs] at hq; exact (noS hq).elim
      | some q =>
        obtain ⟨q, n', l⟩ := q
        rw [hs] at hq
        simp only at hq
        cases hb : Nat.beq n' n with
        | false => rw [hb] at hq; exact (noS hq).elim
        | true =>
          have hb' := Nat.eq_of_beq_eq_true hb
          rw [hb] at hq
          subst hb'
          obtain ⟨y, h1, h2⟩ := bindS hq
          exact ⟨_, h2, fun hE hR h => c_loadA h hG hN ha (hE _ _ hx) (arrAt_mono hR hs) h1⟩
    · exact (noS hq).elim
  | int _ _ | bool _ | ary _ _ _ | str _ _ | agg _ | fv _ _ _ | fn _ _ | undef | dead | tup _ | dat _ _ | own _ | nilS | raw _ | it _ _ | np _ _ | ep _ _ _ _ _ | rp _ _ | ptr _ _ => exact (noS hc).elim
theorem lenM_ok [Sl (P := P)] (hG : GxOk P G) (hN : Nat.blt d N = true) {t : TypeId} {x : Operand} {s : SV} (hx : E x = some s) (hc : lenM G R K t s = some z) : ∃ as_, K as_ = some z ∧ Does P N (some d) (.call ⟨.builtin .len, #[x], #[t]⟩) E R as_ := by
  unfold lenM at hc
  cases hl : lk G.mp t with
  | none => rw [hl] at hc; exact (noS hc).elim
  | some q =>
    obtain ⟨m, e, k, v⟩ := q
    rw [hl] at hc
    simp only at hc
    cases hd : toD R (.mp m k v) s with
    | none => rw [hd] at hc; exact (noS hc).elim
    | some f =>
      rw [hd] at hc
      obtain ⟨n, h1, h2⟩ := bindS hc
      exact ⟨_, h2, fun hE hR h => c_lenM h hG hN hl (hE _ _ hx) (toD_mono hR _ _ hd) h1⟩
theorem mkmS_ok (hG : GxOk P G) (hN : Nat.blt d N = true) {t : TypeId} (hc : mkmS G d K t = some z) : ∃ as_, K as_ = some z ∧ Does P N (some d) (.makeMap t none) E R as_ := by
  unfold mkmS at hc
  cases hl : lk G.mp t with
  | none => rw [hl] at hc; exact (noS hc).elim
  | some q =>
    obtain ⟨m, e, k, v⟩ := q
    rw [hl] at hc
    exact ⟨_, hc, fun _ _ h => c_makeMap h hG hN hl⟩
theorem lkmS_ok [Sl (P := P)] (hG : GxOk P G) (hN : Nat.blt d N = true) {t : TypeId} {cm : Bool} {x y : Operand} {sx sy : SV} (hx : E x = some sx) (hy : E y = some sy) (hc : lkmS G R K t cm sx sy = some z) : ∃ as_, K as_ = some z ∧ Does P N (some d) (.lookup t x y cm) E R as_ := by
  unfold lkmS at hc
  cases hl : lk G.mp t with
  | none => rw [hl] at hc; exact (noS hc).elim
  | some q =>
    obtain ⟨m, e, k, v⟩ := q
    rw [hl] at hc
    simp only at hc
    cases hd : toD R (.mp m k v) sx with
    | none => rw [hd] at hc; exact (noS hc).elim
    | some f =>
      rw [hd] at hc
      simp only at hc
      cases ho : owns sy with
      | cons _ _ => rw [ho] at hc; exact (noS hc).elim
      | nil =>
        rw [ho] at hc
        simp only at hc
        cases ha : toD R k sy with
        | none => rw [ha] at hc; exact (noS hc).elim
        | some a =>
          rw [ha] at hc
          simp only at hc
          cases hz : zdM v with
          | none => rw [hz] at hc; exact (noS hc).elim
          | some z0 =>
            rw [hz] at hc
            exact ⟨_, hc, fun hE hR h => c_lookup h hG hN hl (hE _ _ hx) (toD_mono hR _ _ hd) (hE _ _ hy) ho (toD_mono hR _ _ ha) hz⟩
theorem upmS_ok [Sl (P := P)] (hG : GxOk P G) {t : TypeId} {x y u : Operand} {sx sy su : SV} (hx : E x = some sx) (hy : E y = some sy) (hu : E u = some su) (hc : upmS G R K t sx sy su = some z) : ∃ as_, K as_ = some z ∧ Does P N none (.mapUpdate t x y u) E R as_ := by
  unfold upmS at hc
  cases hl : lk G.mp t with
  | none => rw [hl] at hc; exact (noS hc).elim
  | some q =>
    obtain ⟨m, e, k, v⟩ := q
    rw [hl] at hc
    simp only at hc
    cases hd : ownM R m k v sx with
    | none => rw [hd] at hc; exact (noS hc).elim
    | some q =>
      obtain ⟨i, f⟩ := q
      rw [hd] at hc
      simp only at hc
      cases ho : owns sy with
      | cons _ _ => rw [ho] at hc; exact (noS hc).elim
      | nil =>
        rw [ho] at hc
        simp only at hc
        cases ha : toD R k sy with
        | none => rw [ha] at hc; exact (noS hc).elim
        | some a =>
          rw [ha] at hc
          simp only at hc
          cases hh : has (owns su) i with
          | true => rw [hh] at hc; exact (noS hc).elim
          | false =>
            rw [hh] at hc
            simp only at hc
            cases hz : toD R v su with
            | none => rw [hz] at hc; exact (noS hc).elim
            | some z0 =>
              rw [hz] at hc
              simp only at hc
              cases hf : frz R (owns su) with
              | none => rw [hf] at hc; exact (noS hc).elim
              | some fz =>
                rw [hf] at hc
                obtain ⟨he, hi⟩ := ownM_some hd
                subst he
                exact ⟨_, hc, fun hE hR h => c_mapUpdate h hG hl (hE _ _ hx) (hR _ _ hi) (hE _ _ hy) ho (toD_mono hR _ _ ha) (hE _ _ hu) hh (toD_mono hR _ _ hz) (frz_mono hR _ hf)⟩
theorem Does.ins {t : TypeId} {x y u : Operand} {as_ : List Ac} (h : Does P N none (.mapUpdate t x y u) E R as_) : Does P N none (.insert t x y u) E R as_ := fun {w0 w Mu M σ L S ρ γ μ ι ops ds B X Z ty pos af} hE hR hS => by
  have h1 := h (ops := ops) (ds := ds) (B := B) (X := X) (Z := Z) (ty := ty) (pos := pos) (af := af) hE hR hS
  intro a ha
  exact h1 a ha
theorem delS_ok [Sl (P := P)] (hG : GxOk P G) {t t' : TypeId} {x y : Operand} {sx sy : SV} (hx : E x = some sx) (hy : E y = some sy) (hc : delS G R K t sx sy = some z) : ∃ as_, K as_ = some z ∧ Does P N none (.call ⟨.builtin .delete, #[x, y], #[t, t']⟩) E R as_ := by
  unfold delS at hc
  cases hl : lk G.mp t with
  | none => rw [hl] at hc; exact (noS hc).elim
  | some q =>
    obtain ⟨m, e, k, v⟩ := q
    rw [hl] at hc
    simp only at hc
    cases hd : ownM R m k v sx with
    | none => rw [hd] at hc; exact (noS hc).elim
    | some q =>
      obtain ⟨i, f⟩ := q
      rw [hd] at hc
      simp only at hc
      cases ho : owns sy with
      | cons _ _ => rw [ho] at hc; exact (noS hc).elim
      | nil =>
        rw [ho] at hc
        simp only at hc
        cases ha : toD R k sy with
        | none => rw [ha] at hc; exact (noS hc).elim
        | some a =>
          rw [ha] at hc
          obtain ⟨he, hi⟩ := ownM_some hd
          subst he
          exact ⟨_, hc, fun hE hR h => c_delete h hG hl (hE _ _ hx) (hR _ _ hi) (hE _ _ hy) ho (toD_mono hR _ _ ha)⟩
theorem bltS_ok [Sl (P := P)] (hG : GxOk P G) (hN : Nat.blt d N = true) {b : Builtin} (hdl : b ≠ .delete) {xs : Array Operand} {ts : Array TypeId} {ss : List SV} (hx : evL E xs.toList = some ss) (hc : bltS G d R K b ss ts.toList = some z) : ∃ as_, K as_ = some z ∧ Does P N (some d) (.call ⟨.builtin b, xs, ts⟩) E R as_ := by
  obtain ⟨xs⟩ := xs
  obtain ⟨ts⟩ := ts
  simp only at hx hc
  unfold bltS at hc
  split at hc
  · rename_i s t
    obtain ⟨x, rfl, hx1⟩ := evL_1 hx
    cases hl : lk G.sl t with
    | none => rw [hl] at hc; exact lenM_ok hG hN hx1 hc
    | some q =>
      obtain ⟨e, u, n⟩ := q
      rw [hl] at hc
      exact lenS_ok hN (SlOk.at hG.sl hl).und hx1 hc
  · exact absurd rfl hdl
  · obtain ⟨x, y, rfl, hx1, hy1⟩ := evL_2 hx
    obtain ⟨k, i, j, e1, e2, hq⟩ := mmS_out hc
    subst e1; subst e2
    exact ⟨_, hq, fun hE _ h => c_min h hN (hE _ _ hx1) (hE _ _ hy1)⟩
  · obtain ⟨x, y, rfl, hx1, hy1⟩ := evL_2 hx
    obtain ⟨k, i, j, e1, e2, hq⟩ := mmS_out hc
    subst e1; subst e2
    exact ⟨_, hq, fun hE _ h => c_max h hN (hE _ _ hx1) (hE _ _ hy1)⟩
  · rename_i v s t t'
    obtain ⟨x, y, rfl, hx1, hy1⟩ := evL_2 hx
    split at hc
    · rename_i e u n hb hl
      have := Nat.eq_of_beq_eq_true hb
      subst this
      cases hd : toD R (.sl u) s with
      | none => rw [hd] at hc; exact (noS hc).elim
      | some ys =>
        rw [hd] at hc
        simp only at hc
        cases hf : frz R (owns s) with
        | none => rw [hf] at hc; exact (noS hc).elim
        | some fz =>
          rw [hf] at hc
          exact appS_ok hG hN hl hx1 hy1 hd hf hc
    · exact (noS hc).elim
  · exact (noS hc).elim
theorem openN_out [Sl (P := P)] {Z : Type} {z : Z} : ∀ {ss : List SV} {K : List SV → Option Z}, openN ss K = some z → ∃ ss', K ss' = some z ∧ ∀ ρ R M w vs, OkV (P := P) ρ R M w ss vs → OkV (P := P) ρ R M w ss' vs
  | [], K, h => ⟨[], h, fun _ _ _ _ _ h => h⟩
  | s :: l, K, h => by
    have key : openN l (fun r => K (s :: r)) = some z → ∃ ss', K ss' = some z ∧ ∀ ρ R M w vs, OkV (P := P) ρ R M w (s :: l) vs → OkV (P := P) ρ R M w ss' vs := fun h => by
      obtain ⟨ss', h1, h2⟩ := openN_out h
      refine ⟨_, h1, fun ρ R M w vs hk => ?_⟩
      obtain ⟨u, r, rfl, h3, h4⟩ := hk
      exact ⟨u, r, rfl, h3, h2 _ _ _ _ _ h4⟩
    cases s with
    | np t x =>
      have h : Option.bind x (fun y => openN l fun r => K (.rp (ofD t y) 0 :: r)) = some z := h
      obtain ⟨y, rfl, h⟩ := bindS h
      obtain ⟨ss', h1, h2⟩ := openN_out h
      refine ⟨_, h1, fun ρ R M w vs hk => ?_⟩
      obtain ⟨u, r, rfl, h3, h4⟩ := hk
      refine ⟨u, r, rfl, ?_, h2 _ _ _ _ _ h4⟩
      rcases h3 with ⟨h3, _⟩ | ⟨y', b, o, vs, h3, rfl, h5, h6⟩
      · cases h3
      · cases h3
        obtain ⟨u, h7, h8⟩ := OkD.of_cells h6
        exact ⟨b, o, u, vs, rfl, h5, ofD_ok t h7, h8⟩
    | _ => exact key h
theorem callC_ok [Sl (P := P)] (hG : GxOk P G) {d : Option Nat} {id : Nat} (hN : (match d with | some d => Nat.blt d N | none => true) = true) {f : Operand} {g : Nat} {xs : Array Operand} {ts : Array TypeId} {caps ss ss' : List SV} (hop : ∀ ρ R M w vs, OkV (P := P) ρ R M w (ss ++ caps) vs → OkV (P := P) ρ R M w ss' vs) (hf : E f = some (.fn g caps)) (hx : evL E xs.toList = some ss) (hc : callC G id R K g ss' = some z) : ∃ as_, K as_ = some z ∧ Does P N d (.call ⟨.value f, xs, ts⟩) E R as_ := by
  unfold callC at hc
  cases h1 : fnd G.fs g with
  | none => rw [h1] at hc; exact (noS hc).elim
  | some c =>
    rw [h1] at hc
    simp only at hc
    cases h2 : argsD G R c.ps ss' with
    | none => rw [h2] at hc; exact (noS hc).elim
    | some a =>
      rw [h2] at hc
      simp only at hc
      cases h3 : (bif plainB c.rs then some [] else frz R (ownsLL ss')) with
      | none => rw [h3] at hc; exact (noS hc).elim
      | some fz =>
        rw [h3] at hc
        obtain ⟨r, h4, h5⟩ := bindS hc
        refine ⟨_, h5, ?_⟩
        intro w0 w Mu M σ L S ρ γ μ ι ops ds B X Z ty pos af hE hR h
        have h6 : (bif plainB c.rs then some [] else frz (fnd σ.res) (ownsLL ss')) = some fz := by
          cases hp : plainB c.rs with
          | true => rw [hp, cond_true] at h3; rw [cond_true]; exact h3
          | false => rw [hp, cond_false] at h3; rw [cond_false]; exact frz_mono hR _ h3
        exact c_call h hG hN hop (hE _ _ hf) (evL_mono hE _ hx) h1 (argsD_mono hR _ _ h2) h6 h4
theorem callV_ok [Sl (P := P)] {d : Option Nat} (hN : (match d with | some d => Nat.blt d N | none => true) = true) {f : Operand} {xs : Array Operand} {ts : Array TypeId} {ss : List SV} {a : List Ty} {r : Ty} {F : denF a r} {o : Option (den r)} {fz : List Ac} (hf : E f = some (.fv a r F)) (hx : evL E xs.toList = some ss) (h1 : callF r a F R ss = some o) (h2 : frz R (ownsLL ss) = some fz) (hc : Option.bind o (fun y => K (fz ++ [.put (ofD r y)])) = some z) : ∃ as_, K as_ = some z ∧ Does P N d (.call ⟨.value f, xs, ts⟩) E R as_ := by
  obtain ⟨y, h3, h4⟩ := bindS hc
  exact ⟨_, h4, fun hE hR h => c_callF h hN (hE _ _ hf) (evL_mono hE _ hx) (callF_mono hR _ _ _ h1) (frz_mono hR _ h2) h3⟩
end
end Go.Rx
